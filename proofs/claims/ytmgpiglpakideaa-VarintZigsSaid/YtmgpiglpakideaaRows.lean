/-
  No cell of these rows narrows 'for every input' (looked for: loops, veiled, ifaces, maps, wideKeys, modest, calm, conditions, laid).
  DERIVED. THE GIVEN ROWS OF THIS SEAT. 20 by the template 'for every input the law returns true; each argument reads behind the call as it read before'; 0 by the template 'total and deterministic' (their statements: YtmgpiglpakideaaTotals.lean).
  GIVEN WITH THE SEED: the statements are not yours to turn. If you find one false, say at which input.
  Laid BY PROGRAM, IN A SANDBOX (cutbox-rows.mjs): the forced cells as the released guide's own fill.sh prints them over the translation a49c5c5ffd7ee1fb… (all of the seat's roots in one cut). By AI agents, Wed Nov 11 2026. No macro, syntax, notation, axiom, sorry.
-/
import Derived.Test.YtmgpiglpakideaaChecked
import GoSem.Claim
import GoSem.ClaimJoined
import GoSem.ClaimMapViews
import Derived.JoinedTies
import Derived.KernelRfl
namespace Go.Proofs.Ytmgpiglpakideaa
/- THE CELL 'sum', in the pinned program and in every row, IS THE sha256 OF THE DUMP (.gsa) THAT YtmgpiglpakideaaProg.lean LOADS. Nothing in Lean hashes anything: it is a label: what it is worth is what the hold of that sum in a sandbox is worth. -/
noncomputable def Try.pinned : Pinned := { name := "ytmgpiglpakideaa", sum := "a49c5c5ffd7ee1fb11c76353258be546c308916303d9a31dd2f8edbaf253fde3", checked := Try.checked }
namespace Rows
def none {H : Type} : Left H := { results := [], args := [] }

/-- 'wireschemalaw01.VarintZigs': WHATEVER THE INPUT: true; the input reads as it did. -/
def varintZigsSpec : ChangeSpec := { name := "varintZigs", fn := fun _ => fun
  | [d1, d2] => { results := [.lit (.bool true)], args := [d1, d2] }
  | _ => none }
def varintZigsRow : OpenClaim := { program := "ytmgpiglpakideaa", sum := "a49c5c5ffd7ee1fb11c76353258be546c308916303d9a31dd2f8edbaf253fde3", func := "wireschema/wireschemalaw01.VarintZigs", spec := "varintZigs", apart := false }
def VarintZigsSaid : Prop := varintZigsRow.holds Try.pinned (OpenSpec.ofChange varintZigsSpec)

/-- ITS FALSE NEIGHBOUR: 'it returns false'. Refute it at one input. -/
def varintZigsWrong : ChangeSpec := { name := "varintZigs", fn := fun _ => fun
  | [d1, d2] => { results := [.lit (.bool false)], args := [d1, d2] }
  | _ => none }
def VarintZigsWrongFalsely : Prop := varintZigsRow.holds Try.pinned (OpenSpec.ofChange varintZigsWrong)

/-- 'wireschemalaw01.VarintGrows': WHATEVER THE INPUT: true; the input reads as it did. -/
def varintGrowsSpec : ChangeSpec := { name := "varintGrows", fn := fun _ => fun
  | [d1, d2] => { results := [.lit (.bool true)], args := [d1, d2] }
  | _ => none }
def varintGrowsRow : OpenClaim := { program := "ytmgpiglpakideaa", sum := "a49c5c5ffd7ee1fb11c76353258be546c308916303d9a31dd2f8edbaf253fde3", func := "wireschema/wireschemalaw01.VarintGrows", spec := "varintGrows", apart := false }
def VarintGrowsSaid : Prop := varintGrowsRow.holds Try.pinned (OpenSpec.ofChange varintGrowsSpec)

/-- ITS FALSE NEIGHBOUR: 'it returns false'. Refute it at one input. -/
def varintGrowsWrong : ChangeSpec := { name := "varintGrows", fn := fun _ => fun
  | [d1, d2] => { results := [.lit (.bool false)], args := [d1, d2] }
  | _ => none }
def VarintGrowsWrongFalsely : Prop := varintGrowsRow.holds Try.pinned (OpenSpec.ofChange varintGrowsWrong)

/-- 'wireschemalaw01.VarintPuts': WHATEVER THE INPUT: true; the input reads as it did. -/
def varintPutsSpec : ChangeSpec := { name := "varintPuts", fn := fun _ => fun
  | [d] => { results := [.lit (.bool true)], args := [d] }
  | _ => none }
def varintPutsRow : OpenClaim := { program := "ytmgpiglpakideaa", sum := "a49c5c5ffd7ee1fb11c76353258be546c308916303d9a31dd2f8edbaf253fde3", func := "wireschema/wireschemalaw01.VarintPuts", spec := "varintPuts", apart := false }
def VarintPutsSaid : Prop := varintPutsRow.holds Try.pinned (OpenSpec.ofChange varintPutsSpec)

/-- ITS FALSE NEIGHBOUR: 'it returns false'. Refute it at one input. -/
def varintPutsWrong : ChangeSpec := { name := "varintPuts", fn := fun _ => fun
  | [d] => { results := [.lit (.bool false)], args := [d] }
  | _ => none }
def VarintPutsWrongFalsely : Prop := varintPutsRow.holds Try.pinned (OpenSpec.ofChange varintPutsWrong)

/-- 'wireschemalaw01.VarintFixed': WHATEVER THE INPUT: true; the input reads as it did. -/
def varintFixedSpec : ChangeSpec := { name := "varintFixed", fn := fun _ => fun
  | [d1, d2] => { results := [.lit (.bool true)], args := [d1, d2] }
  | _ => none }
def varintFixedRow : OpenClaim := { program := "ytmgpiglpakideaa", sum := "a49c5c5ffd7ee1fb11c76353258be546c308916303d9a31dd2f8edbaf253fde3", func := "wireschema/wireschemalaw01.VarintFixed", spec := "varintFixed", apart := false }
def VarintFixedSaid : Prop := varintFixedRow.holds Try.pinned (OpenSpec.ofChange varintFixedSpec)

/-- ITS FALSE NEIGHBOUR: 'it returns false'. Refute it at one input. -/
def varintFixedWrong : ChangeSpec := { name := "varintFixed", fn := fun _ => fun
  | [d1, d2] => { results := [.lit (.bool false)], args := [d1, d2] }
  | _ => none }
def VarintFixedWrongFalsely : Prop := varintFixedRow.holds Try.pinned (OpenSpec.ofChange varintFixedWrong)

/-- 'wireschemalaw01.VarintTakes': WHATEVER THE INPUT: true; the input reads as it did. -/
def varintTakesSpec : ChangeSpec := { name := "varintTakes", fn := fun _ => fun
  | [d] => { results := [.lit (.bool true)], args := [d] }
  | _ => none }
def varintTakesRow : OpenClaim := { program := "ytmgpiglpakideaa", sum := "a49c5c5ffd7ee1fb11c76353258be546c308916303d9a31dd2f8edbaf253fde3", func := "wireschema/wireschemalaw01.VarintTakes", spec := "varintTakes", apart := false }
def VarintTakesSaid : Prop := varintTakesRow.holds Try.pinned (OpenSpec.ofChange varintTakesSpec)

/-- ITS FALSE NEIGHBOUR: 'it returns false'. Refute it at one input. -/
def varintTakesWrong : ChangeSpec := { name := "varintTakes", fn := fun _ => fun
  | [d] => { results := [.lit (.bool false)], args := [d] }
  | _ => none }
def VarintTakesWrongFalsely : Prop := varintTakesRow.holds Try.pinned (OpenSpec.ofChange varintTakesWrong)

/-- 'wireschemalaw01.VarintLonger': WHATEVER THE INPUT: true; the input reads as it did. -/
def varintLongerSpec : ChangeSpec := { name := "varintLonger", fn := fun _ => fun
  | [d1, d2] => { results := [.lit (.bool true)], args := [d1, d2] }
  | _ => none }
def varintLongerRow : OpenClaim := { program := "ytmgpiglpakideaa", sum := "a49c5c5ffd7ee1fb11c76353258be546c308916303d9a31dd2f8edbaf253fde3", func := "wireschema/wireschemalaw01.VarintLonger", spec := "varintLonger", apart := false }
def VarintLongerSaid : Prop := varintLongerRow.holds Try.pinned (OpenSpec.ofChange varintLongerSpec)

/-- ITS FALSE NEIGHBOUR: 'it returns false'. Refute it at one input. -/
def varintLongerWrong : ChangeSpec := { name := "varintLonger", fn := fun _ => fun
  | [d1, d2] => { results := [.lit (.bool false)], args := [d1, d2] }
  | _ => none }
def VarintLongerWrongFalsely : Prop := varintLongerRow.holds Try.pinned (OpenSpec.ofChange varintLongerWrong)

/-- 'wireschemalaw01.VarintRoundTrips': WHATEVER THE INPUT: true; the input reads as it did. -/
def varintRoundTripsSpec : ChangeSpec := { name := "varintRoundTrips", fn := fun _ => fun
  | [d1, d2] => { results := [.lit (.bool true)], args := [d1, d2] }
  | _ => none }
def varintRoundTripsRow : OpenClaim := { program := "ytmgpiglpakideaa", sum := "a49c5c5ffd7ee1fb11c76353258be546c308916303d9a31dd2f8edbaf253fde3", func := "wireschema/wireschemalaw01.VarintRoundTrips", spec := "varintRoundTrips", apart := false }
def VarintRoundTripsSaid : Prop := varintRoundTripsRow.holds Try.pinned (OpenSpec.ofChange varintRoundTripsSpec)

/-- ITS FALSE NEIGHBOUR: 'it returns false'. Refute it at one input. -/
def varintRoundTripsWrong : ChangeSpec := { name := "varintRoundTrips", fn := fun _ => fun
  | [d1, d2] => { results := [.lit (.bool false)], args := [d1, d2] }
  | _ => none }
def VarintRoundTripsWrongFalsely : Prop := varintRoundTripsRow.holds Try.pinned (OpenSpec.ofChange varintRoundTripsWrong)

/-- 'wireschemalaw02.CursorOpens': WHATEVER THE INPUT: true; the input reads as it did. -/
def cursorOpensSpec : ChangeSpec := { name := "cursorOpens", fn := fun _ => fun
  | [d1, d2, d3] => { results := [.lit (.bool true)], args := [d1, d2, d3] }
  | _ => none }
def cursorOpensRow : OpenClaim := { program := "ytmgpiglpakideaa", sum := "a49c5c5ffd7ee1fb11c76353258be546c308916303d9a31dd2f8edbaf253fde3", func := "wireschema/wireschemalaw02.CursorOpens", spec := "cursorOpens", apart := false }
def CursorOpensSaid : Prop := cursorOpensRow.holds Try.pinned (OpenSpec.ofChange cursorOpensSpec)

/-- ITS FALSE NEIGHBOUR: 'it returns false'. Refute it at one input. -/
def cursorOpensWrong : ChangeSpec := { name := "cursorOpens", fn := fun _ => fun
  | [d1, d2, d3] => { results := [.lit (.bool false)], args := [d1, d2, d3] }
  | _ => none }
def CursorOpensWrongFalsely : Prop := cursorOpensRow.holds Try.pinned (OpenSpec.ofChange cursorOpensWrong)

/-- 'wireschemalaw02.CursorTexts': WHATEVER THE INPUT: true; the input reads as it did. -/
def cursorTextsSpec : ChangeSpec := { name := "cursorTexts", fn := fun _ => fun
  | [d1, d2] => { results := [.lit (.bool true)], args := [d1, d2] }
  | _ => none }
def cursorTextsRow : OpenClaim := { program := "ytmgpiglpakideaa", sum := "a49c5c5ffd7ee1fb11c76353258be546c308916303d9a31dd2f8edbaf253fde3", func := "wireschema/wireschemalaw02.CursorTexts", spec := "cursorTexts", apart := false }
def CursorTextsSaid : Prop := cursorTextsRow.holds Try.pinned (OpenSpec.ofChange cursorTextsSpec)

/-- ITS FALSE NEIGHBOUR: 'it returns false'. Refute it at one input. -/
def cursorTextsWrong : ChangeSpec := { name := "cursorTexts", fn := fun _ => fun
  | [d1, d2] => { results := [.lit (.bool false)], args := [d1, d2] }
  | _ => none }
def CursorTextsWrongFalsely : Prop := cursorTextsRow.holds Try.pinned (OpenSpec.ofChange cursorTextsWrong)

/-- 'wireschemalaw02.CursorLeaves': WHATEVER THE INPUT: true; the input reads as it did. -/
def cursorLeavesSpec : ChangeSpec := { name := "cursorLeaves", fn := fun _ => fun
  | [d1, d2] => { results := [.lit (.bool true)], args := [d1, d2] }
  | _ => none }
def cursorLeavesRow : OpenClaim := { program := "ytmgpiglpakideaa", sum := "a49c5c5ffd7ee1fb11c76353258be546c308916303d9a31dd2f8edbaf253fde3", func := "wireschema/wireschemalaw02.CursorLeaves", spec := "cursorLeaves", apart := false }
def CursorLeavesSaid : Prop := cursorLeavesRow.holds Try.pinned (OpenSpec.ofChange cursorLeavesSpec)

/-- ITS FALSE NEIGHBOUR: 'it returns false'. Refute it at one input. -/
def cursorLeavesWrong : ChangeSpec := { name := "cursorLeaves", fn := fun _ => fun
  | [d1, d2] => { results := [.lit (.bool false)], args := [d1, d2] }
  | _ => none }
def CursorLeavesWrongFalsely : Prop := cursorLeavesRow.holds Try.pinned (OpenSpec.ofChange cursorLeavesWrong)

/-- 'wireschemalaw02.CursorNumbers': WHATEVER THE INPUT: true; the input reads as it did. -/
def cursorNumbersSpec : ChangeSpec := { name := "cursorNumbers", fn := fun _ => fun
  | [d1, d2] => { results := [.lit (.bool true)], args := [d1, d2] }
  | _ => none }
def cursorNumbersRow : OpenClaim := { program := "ytmgpiglpakideaa", sum := "a49c5c5ffd7ee1fb11c76353258be546c308916303d9a31dd2f8edbaf253fde3", func := "wireschema/wireschemalaw02.CursorNumbers", spec := "cursorNumbers", apart := false }
def CursorNumbersSaid : Prop := cursorNumbersRow.holds Try.pinned (OpenSpec.ofChange cursorNumbersSpec)

/-- ITS FALSE NEIGHBOUR: 'it returns false'. Refute it at one input. -/
def cursorNumbersWrong : ChangeSpec := { name := "cursorNumbers", fn := fun _ => fun
  | [d1, d2] => { results := [.lit (.bool false)], args := [d1, d2] }
  | _ => none }
def CursorNumbersWrongFalsely : Prop := cursorNumbersRow.holds Try.pinned (OpenSpec.ofChange cursorNumbersWrong)

/-- 'wireschemalaw02.CursorRuns': WHATEVER THE INPUT: true; the input reads as it did. -/
def cursorRunsSpec : ChangeSpec := { name := "cursorRuns", fn := fun _ => fun
  | [d1, d2] => { results := [.lit (.bool true)], args := [d1, d2] }
  | _ => none }
def cursorRunsRow : OpenClaim := { program := "ytmgpiglpakideaa", sum := "a49c5c5ffd7ee1fb11c76353258be546c308916303d9a31dd2f8edbaf253fde3", func := "wireschema/wireschemalaw02.CursorRuns", spec := "cursorRuns", apart := false }
def CursorRunsSaid : Prop := cursorRunsRow.holds Try.pinned (OpenSpec.ofChange cursorRunsSpec)

/-- ITS FALSE NEIGHBOUR: 'it returns false'. Refute it at one input. -/
def cursorRunsWrong : ChangeSpec := { name := "cursorRuns", fn := fun _ => fun
  | [d1, d2] => { results := [.lit (.bool false)], args := [d1, d2] }
  | _ => none }
def CursorRunsWrongFalsely : Prop := cursorRunsRow.holds Try.pinned (OpenSpec.ofChange cursorRunsWrong)

/-- 'wireschemalaw02.CursorStays': WHATEVER THE INPUT: true; the input reads as it did. -/
def cursorStaysSpec : ChangeSpec := { name := "cursorStays", fn := fun _ => fun
  | [d1, d2] => { results := [.lit (.bool true)], args := [d1, d2] }
  | _ => none }
def cursorStaysRow : OpenClaim := { program := "ytmgpiglpakideaa", sum := "a49c5c5ffd7ee1fb11c76353258be546c308916303d9a31dd2f8edbaf253fde3", func := "wireschema/wireschemalaw02.CursorStays", spec := "cursorStays", apart := false }
def CursorStaysSaid : Prop := cursorStaysRow.holds Try.pinned (OpenSpec.ofChange cursorStaysSpec)

/-- ITS FALSE NEIGHBOUR: 'it returns false'. Refute it at one input. -/
def cursorStaysWrong : ChangeSpec := { name := "cursorStays", fn := fun _ => fun
  | [d1, d2] => { results := [.lit (.bool false)], args := [d1, d2] }
  | _ => none }
def CursorStaysWrongFalsely : Prop := cursorStaysRow.holds Try.pinned (OpenSpec.ofChange cursorStaysWrong)

/-- 'wireschemalaw23.UnknownTags': WHATEVER THE INPUT: true; the input reads as it did. -/
def unknownTagsSpec : ChangeSpec := { name := "unknownTags", fn := fun _ => fun
  | [d1, d2, d3] => { results := [.lit (.bool true)], args := [d1, d2, d3] }
  | _ => none }
def unknownTagsRow : OpenClaim := { program := "ytmgpiglpakideaa", sum := "a49c5c5ffd7ee1fb11c76353258be546c308916303d9a31dd2f8edbaf253fde3", func := "wireschema/wireschemalaw23.UnknownTags", spec := "unknownTags", inPlace := ["internal/abi.NoEscape"], unfollowed := true, recurses := true, apart := false }
def UnknownTagsSaid : Prop := unknownTagsRow.holds Try.pinned (OpenSpec.ofChange unknownTagsSpec)

/-- ITS FALSE NEIGHBOUR: 'it returns false'. Refute it at one input. -/
def unknownTagsWrong : ChangeSpec := { name := "unknownTags", fn := fun _ => fun
  | [d1, d2, d3] => { results := [.lit (.bool false)], args := [d1, d2, d3] }
  | _ => none }
def UnknownTagsWrongFalsely : Prop := unknownTagsRow.holds Try.pinned (OpenSpec.ofChange unknownTagsWrong)

/-- 'wireschemalaw23.UnknownNext': WHATEVER THE INPUT: true; the input reads as it did. -/
def unknownNextSpec : ChangeSpec := { name := "unknownNext", fn := fun _ => fun
  | [d] => { results := [.lit (.bool true)], args := [d] }
  | _ => none }
def unknownNextRow : OpenClaim := { program := "ytmgpiglpakideaa", sum := "a49c5c5ffd7ee1fb11c76353258be546c308916303d9a31dd2f8edbaf253fde3", func := "wireschema/wireschemalaw23.UnknownNext", spec := "unknownNext", inPlace := ["internal/abi.NoEscape"], unfollowed := true, recurses := true, apart := false }
def UnknownNextSaid : Prop := unknownNextRow.holds Try.pinned (OpenSpec.ofChange unknownNextSpec)

/-- ITS FALSE NEIGHBOUR: 'it returns false'. Refute it at one input. -/
def unknownNextWrong : ChangeSpec := { name := "unknownNext", fn := fun _ => fun
  | [d] => { results := [.lit (.bool false)], args := [d] }
  | _ => none }
def UnknownNextWrongFalsely : Prop := unknownNextRow.holds Try.pinned (OpenSpec.ofChange unknownNextWrong)

/-- 'wireschemalaw23.UnknownScans': WHATEVER THE INPUT: true; the input reads as it did. -/
def unknownScansSpec : ChangeSpec := { name := "unknownScans", fn := fun _ => fun
  | [d1, d2] => { results := [.lit (.bool true)], args := [d1, d2] }
  | _ => none }
def unknownScansRow : OpenClaim := { program := "ytmgpiglpakideaa", sum := "a49c5c5ffd7ee1fb11c76353258be546c308916303d9a31dd2f8edbaf253fde3", func := "wireschema/wireschemalaw23.UnknownScans", spec := "unknownScans", inPlace := ["internal/abi.NoEscape"], unfollowed := true, recurses := true, apart := false }
def UnknownScansSaid : Prop := unknownScansRow.holds Try.pinned (OpenSpec.ofChange unknownScansSpec)

/-- ITS FALSE NEIGHBOUR: 'it returns false'. Refute it at one input. -/
def unknownScansWrong : ChangeSpec := { name := "unknownScans", fn := fun _ => fun
  | [d1, d2] => { results := [.lit (.bool false)], args := [d1, d2] }
  | _ => none }
def UnknownScansWrongFalsely : Prop := unknownScansRow.holds Try.pinned (OpenSpec.ofChange unknownScansWrong)

/-- 'wireschemalaw23.UnknownRoundTrips': WHATEVER THE INPUT: true; the input reads as it did. -/
def unknownRoundTripsSpec : ChangeSpec := { name := "unknownRoundTrips", fn := fun _ => fun
  | [d] => { results := [.lit (.bool true)], args := [d] }
  | _ => none }
def unknownRoundTripsRow : OpenClaim := { program := "ytmgpiglpakideaa", sum := "a49c5c5ffd7ee1fb11c76353258be546c308916303d9a31dd2f8edbaf253fde3", func := "wireschema/wireschemalaw23.UnknownRoundTrips", spec := "unknownRoundTrips", inPlace := ["internal/abi.NoEscape"], unfollowed := true, recurses := true, apart := false }
def UnknownRoundTripsSaid : Prop := unknownRoundTripsRow.holds Try.pinned (OpenSpec.ofChange unknownRoundTripsSpec)

/-- ITS FALSE NEIGHBOUR: 'it returns false'. Refute it at one input. -/
def unknownRoundTripsWrong : ChangeSpec := { name := "unknownRoundTrips", fn := fun _ => fun
  | [d] => { results := [.lit (.bool false)], args := [d] }
  | _ => none }
def UnknownRoundTripsWrongFalsely : Prop := unknownRoundTripsRow.holds Try.pinned (OpenSpec.ofChange unknownRoundTripsWrong)

/-- 'wireschemalaw23.UnknownKeeps': WHATEVER THE INPUT: true; the input reads as it did. -/
def unknownKeepsSpec : ChangeSpec := { name := "unknownKeeps", fn := fun _ => fun
  | [d1, d2] => { results := [.lit (.bool true)], args := [d1, d2] }
  | _ => none }
def unknownKeepsRow : OpenClaim := { program := "ytmgpiglpakideaa", sum := "a49c5c5ffd7ee1fb11c76353258be546c308916303d9a31dd2f8edbaf253fde3", func := "wireschema/wireschemalaw23.UnknownKeeps", spec := "unknownKeeps", inPlace := ["internal/abi.NoEscape"], unfollowed := true, recurses := true, apart := false }
def UnknownKeepsSaid : Prop := unknownKeepsRow.holds Try.pinned (OpenSpec.ofChange unknownKeepsSpec)

/-- ITS FALSE NEIGHBOUR: 'it returns false'. Refute it at one input. -/
def unknownKeepsWrong : ChangeSpec := { name := "unknownKeeps", fn := fun _ => fun
  | [d1, d2] => { results := [.lit (.bool false)], args := [d1, d2] }
  | _ => none }
def UnknownKeepsWrongFalsely : Prop := unknownKeepsRow.holds Try.pinned (OpenSpec.ofChange unknownKeepsWrong)

/-- 'wireschemalaw23.UnknownJoins': WHATEVER THE INPUT: true; the input reads as it did. -/
def unknownJoinsSpec : ChangeSpec := { name := "unknownJoins", fn := fun _ => fun
  | [d1, d2] => { results := [.lit (.bool true)], args := [d1, d2] }
  | _ => none }
def unknownJoinsRow : OpenClaim := { program := "ytmgpiglpakideaa", sum := "a49c5c5ffd7ee1fb11c76353258be546c308916303d9a31dd2f8edbaf253fde3", func := "wireschema/wireschemalaw23.UnknownJoins", spec := "unknownJoins", inPlace := ["internal/abi.NoEscape"], unfollowed := true, recurses := true, apart := false }
def UnknownJoinsSaid : Prop := unknownJoinsRow.holds Try.pinned (OpenSpec.ofChange unknownJoinsSpec)

/-- ITS FALSE NEIGHBOUR: 'it returns false'. Refute it at one input. -/
def unknownJoinsWrong : ChangeSpec := { name := "unknownJoins", fn := fun _ => fun
  | [d1, d2] => { results := [.lit (.bool false)], args := [d1, d2] }
  | _ => none }
def UnknownJoinsWrongFalsely : Prop := unknownJoinsRow.holds Try.pinned (OpenSpec.ofChange unknownJoinsWrong)

/-- 'wireschemalaw23.UnknownLists': WHATEVER THE INPUT: true; the input reads as it did. -/
def unknownListsSpec : ChangeSpec := { name := "unknownLists", fn := fun _ => fun
  | [d1, d2] => { results := [.lit (.bool true)], args := [d1, d2] }
  | _ => none }
def unknownListsRow : OpenClaim := { program := "ytmgpiglpakideaa", sum := "a49c5c5ffd7ee1fb11c76353258be546c308916303d9a31dd2f8edbaf253fde3", func := "wireschema/wireschemalaw23.UnknownLists", spec := "unknownLists", inPlace := ["internal/abi.NoEscape"], unfollowed := true, recurses := true, apart := false }
def UnknownListsSaid : Prop := unknownListsRow.holds Try.pinned (OpenSpec.ofChange unknownListsSpec)

/-- ITS FALSE NEIGHBOUR: 'it returns false'. Refute it at one input. -/
def unknownListsWrong : ChangeSpec := { name := "unknownLists", fn := fun _ => fun
  | [d1, d2] => { results := [.lit (.bool false)], args := [d1, d2] }
  | _ => none }
def UnknownListsWrongFalsely : Prop := unknownListsRow.holds Try.pinned (OpenSpec.ofChange unknownListsWrong)

/- THE SECOND FORM. 'bulk': how many values and letters a reading holds, each counted each time it is reached (what is shared counts as often as it is met; a slice's spare places count too). A statement '..UptoSaid' is the law's where the arguments, and the package variables that the reading takes, are together of bulk at most 1048576: NARROWER than '..Said'. Prove '..Said' where nothing that the law and all that it calls make is longer than what came in: it says more and counts as full. Else prove '..UptoSaid'. A law counts once. -/
mutual
def uptoBulk {H : Type} : DataW H → Nat
  | .lit (.string bytes) => bytes.length + 1
  | .lit _ => 1
  | .nil => 1
  | .ptr d => uptoBulk d + 1
  | .slice elems spare => uptoBulkAll elems + uptoBulkAll spare + 1
  | .agg parts => uptoBulkAll parts + 1
  | .iface _ d => uptoBulk d + 1
  | .map entries => uptoBulkEntries entries + 1
  | .held _ => 1
def uptoBulkAll {H : Type} : List (DataW H) → Nat
  | [] => 0
  | d :: r => uptoBulk d + uptoBulkAll r
def uptoBulkEntries {H : Type} : List (Lit × DataW H) → Nat
  | [] => 0
  | x :: r => uptoBulkEntry x + uptoBulkEntries r
def uptoBulkEntry {H : Type} : Lit × DataW H → Nat
  | (.string bytes, d) => bytes.length + uptoBulk d + 1
  | (_, d) => uptoBulk d + 1
 end
def uptoSmall : (H : Type) → List (DataW H) → Bool := fun _ ds => decide (uptoBulkAll ds ≤ 1048576)
def OpenSpec.upto (s : _root_.Go.ChangeSpec) : _root_.Go.OpenSpec := { _root_.Go.OpenSpec.ofChange s with cond := some uptoSmall }

/-- 'wireschemalaw01.VarintZigs', WHERE WHAT IT READS IS OF BULK AT MOST 1048576: true; the input reads as it did. -/
def varintZigsUptoRow : OpenClaim := { program := "ytmgpiglpakideaa", sum := "a49c5c5ffd7ee1fb11c76353258be546c308916303d9a31dd2f8edbaf253fde3", func := "wireschema/wireschemalaw01.VarintZigs", spec := "varintZigs", apart := false, narrowed := true }
def VarintZigsUptoSaid : Prop := varintZigsUptoRow.holds Try.pinned (OpenSpec.upto varintZigsSpec)

/-- 'wireschemalaw01.VarintGrows', WHERE WHAT IT READS IS OF BULK AT MOST 1048576: true; the input reads as it did. -/
def varintGrowsUptoRow : OpenClaim := { program := "ytmgpiglpakideaa", sum := "a49c5c5ffd7ee1fb11c76353258be546c308916303d9a31dd2f8edbaf253fde3", func := "wireschema/wireschemalaw01.VarintGrows", spec := "varintGrows", apart := false, narrowed := true }
def VarintGrowsUptoSaid : Prop := varintGrowsUptoRow.holds Try.pinned (OpenSpec.upto varintGrowsSpec)

/-- 'wireschemalaw01.VarintPuts', WHERE WHAT IT READS IS OF BULK AT MOST 1048576: true; the input reads as it did. -/
def varintPutsUptoRow : OpenClaim := { program := "ytmgpiglpakideaa", sum := "a49c5c5ffd7ee1fb11c76353258be546c308916303d9a31dd2f8edbaf253fde3", func := "wireschema/wireschemalaw01.VarintPuts", spec := "varintPuts", apart := false, narrowed := true }
def VarintPutsUptoSaid : Prop := varintPutsUptoRow.holds Try.pinned (OpenSpec.upto varintPutsSpec)

/-- 'wireschemalaw01.VarintFixed', WHERE WHAT IT READS IS OF BULK AT MOST 1048576: true; the input reads as it did. -/
def varintFixedUptoRow : OpenClaim := { program := "ytmgpiglpakideaa", sum := "a49c5c5ffd7ee1fb11c76353258be546c308916303d9a31dd2f8edbaf253fde3", func := "wireschema/wireschemalaw01.VarintFixed", spec := "varintFixed", apart := false, narrowed := true }
def VarintFixedUptoSaid : Prop := varintFixedUptoRow.holds Try.pinned (OpenSpec.upto varintFixedSpec)

/-- 'wireschemalaw01.VarintTakes', WHERE WHAT IT READS IS OF BULK AT MOST 1048576: true; the input reads as it did. -/
def varintTakesUptoRow : OpenClaim := { program := "ytmgpiglpakideaa", sum := "a49c5c5ffd7ee1fb11c76353258be546c308916303d9a31dd2f8edbaf253fde3", func := "wireschema/wireschemalaw01.VarintTakes", spec := "varintTakes", apart := false, narrowed := true }
def VarintTakesUptoSaid : Prop := varintTakesUptoRow.holds Try.pinned (OpenSpec.upto varintTakesSpec)

/-- 'wireschemalaw01.VarintLonger', WHERE WHAT IT READS IS OF BULK AT MOST 1048576: true; the input reads as it did. -/
def varintLongerUptoRow : OpenClaim := { program := "ytmgpiglpakideaa", sum := "a49c5c5ffd7ee1fb11c76353258be546c308916303d9a31dd2f8edbaf253fde3", func := "wireschema/wireschemalaw01.VarintLonger", spec := "varintLonger", apart := false, narrowed := true }
def VarintLongerUptoSaid : Prop := varintLongerUptoRow.holds Try.pinned (OpenSpec.upto varintLongerSpec)

/-- 'wireschemalaw01.VarintRoundTrips', WHERE WHAT IT READS IS OF BULK AT MOST 1048576: true; the input reads as it did. -/
def varintRoundTripsUptoRow : OpenClaim := { program := "ytmgpiglpakideaa", sum := "a49c5c5ffd7ee1fb11c76353258be546c308916303d9a31dd2f8edbaf253fde3", func := "wireschema/wireschemalaw01.VarintRoundTrips", spec := "varintRoundTrips", apart := false, narrowed := true }
def VarintRoundTripsUptoSaid : Prop := varintRoundTripsUptoRow.holds Try.pinned (OpenSpec.upto varintRoundTripsSpec)

/-- 'wireschemalaw02.CursorOpens', WHERE WHAT IT READS IS OF BULK AT MOST 1048576: true; the input reads as it did. -/
def cursorOpensUptoRow : OpenClaim := { program := "ytmgpiglpakideaa", sum := "a49c5c5ffd7ee1fb11c76353258be546c308916303d9a31dd2f8edbaf253fde3", func := "wireschema/wireschemalaw02.CursorOpens", spec := "cursorOpens", apart := false, narrowed := true }
def CursorOpensUptoSaid : Prop := cursorOpensUptoRow.holds Try.pinned (OpenSpec.upto cursorOpensSpec)

/-- 'wireschemalaw02.CursorTexts', WHERE WHAT IT READS IS OF BULK AT MOST 1048576: true; the input reads as it did. -/
def cursorTextsUptoRow : OpenClaim := { program := "ytmgpiglpakideaa", sum := "a49c5c5ffd7ee1fb11c76353258be546c308916303d9a31dd2f8edbaf253fde3", func := "wireschema/wireschemalaw02.CursorTexts", spec := "cursorTexts", apart := false, narrowed := true }
def CursorTextsUptoSaid : Prop := cursorTextsUptoRow.holds Try.pinned (OpenSpec.upto cursorTextsSpec)

/-- 'wireschemalaw02.CursorLeaves', WHERE WHAT IT READS IS OF BULK AT MOST 1048576: true; the input reads as it did. -/
def cursorLeavesUptoRow : OpenClaim := { program := "ytmgpiglpakideaa", sum := "a49c5c5ffd7ee1fb11c76353258be546c308916303d9a31dd2f8edbaf253fde3", func := "wireschema/wireschemalaw02.CursorLeaves", spec := "cursorLeaves", apart := false, narrowed := true }
def CursorLeavesUptoSaid : Prop := cursorLeavesUptoRow.holds Try.pinned (OpenSpec.upto cursorLeavesSpec)

/-- 'wireschemalaw02.CursorNumbers', WHERE WHAT IT READS IS OF BULK AT MOST 1048576: true; the input reads as it did. -/
def cursorNumbersUptoRow : OpenClaim := { program := "ytmgpiglpakideaa", sum := "a49c5c5ffd7ee1fb11c76353258be546c308916303d9a31dd2f8edbaf253fde3", func := "wireschema/wireschemalaw02.CursorNumbers", spec := "cursorNumbers", apart := false, narrowed := true }
def CursorNumbersUptoSaid : Prop := cursorNumbersUptoRow.holds Try.pinned (OpenSpec.upto cursorNumbersSpec)

/-- 'wireschemalaw02.CursorRuns', WHERE WHAT IT READS IS OF BULK AT MOST 1048576: true; the input reads as it did. -/
def cursorRunsUptoRow : OpenClaim := { program := "ytmgpiglpakideaa", sum := "a49c5c5ffd7ee1fb11c76353258be546c308916303d9a31dd2f8edbaf253fde3", func := "wireschema/wireschemalaw02.CursorRuns", spec := "cursorRuns", apart := false, narrowed := true }
def CursorRunsUptoSaid : Prop := cursorRunsUptoRow.holds Try.pinned (OpenSpec.upto cursorRunsSpec)

/-- 'wireschemalaw02.CursorStays', WHERE WHAT IT READS IS OF BULK AT MOST 1048576: true; the input reads as it did. -/
def cursorStaysUptoRow : OpenClaim := { program := "ytmgpiglpakideaa", sum := "a49c5c5ffd7ee1fb11c76353258be546c308916303d9a31dd2f8edbaf253fde3", func := "wireschema/wireschemalaw02.CursorStays", spec := "cursorStays", apart := false, narrowed := true }
def CursorStaysUptoSaid : Prop := cursorStaysUptoRow.holds Try.pinned (OpenSpec.upto cursorStaysSpec)

/-- 'wireschemalaw23.UnknownTags', WHERE WHAT IT READS IS OF BULK AT MOST 1048576: true; the input reads as it did. -/
def unknownTagsUptoRow : OpenClaim := { program := "ytmgpiglpakideaa", sum := "a49c5c5ffd7ee1fb11c76353258be546c308916303d9a31dd2f8edbaf253fde3", func := "wireschema/wireschemalaw23.UnknownTags", spec := "unknownTags", inPlace := ["internal/abi.NoEscape"], unfollowed := true, recurses := true, apart := false, narrowed := true }
def UnknownTagsUptoSaid : Prop := unknownTagsUptoRow.holds Try.pinned (OpenSpec.upto unknownTagsSpec)

/-- 'wireschemalaw23.UnknownNext', WHERE WHAT IT READS IS OF BULK AT MOST 1048576: true; the input reads as it did. -/
def unknownNextUptoRow : OpenClaim := { program := "ytmgpiglpakideaa", sum := "a49c5c5ffd7ee1fb11c76353258be546c308916303d9a31dd2f8edbaf253fde3", func := "wireschema/wireschemalaw23.UnknownNext", spec := "unknownNext", inPlace := ["internal/abi.NoEscape"], unfollowed := true, recurses := true, apart := false, narrowed := true }
def UnknownNextUptoSaid : Prop := unknownNextUptoRow.holds Try.pinned (OpenSpec.upto unknownNextSpec)

/-- 'wireschemalaw23.UnknownScans', WHERE WHAT IT READS IS OF BULK AT MOST 1048576: true; the input reads as it did. -/
def unknownScansUptoRow : OpenClaim := { program := "ytmgpiglpakideaa", sum := "a49c5c5ffd7ee1fb11c76353258be546c308916303d9a31dd2f8edbaf253fde3", func := "wireschema/wireschemalaw23.UnknownScans", spec := "unknownScans", inPlace := ["internal/abi.NoEscape"], unfollowed := true, recurses := true, apart := false, narrowed := true }
def UnknownScansUptoSaid : Prop := unknownScansUptoRow.holds Try.pinned (OpenSpec.upto unknownScansSpec)

/-- 'wireschemalaw23.UnknownRoundTrips', WHERE WHAT IT READS IS OF BULK AT MOST 1048576: true; the input reads as it did. -/
def unknownRoundTripsUptoRow : OpenClaim := { program := "ytmgpiglpakideaa", sum := "a49c5c5ffd7ee1fb11c76353258be546c308916303d9a31dd2f8edbaf253fde3", func := "wireschema/wireschemalaw23.UnknownRoundTrips", spec := "unknownRoundTrips", inPlace := ["internal/abi.NoEscape"], unfollowed := true, recurses := true, apart := false, narrowed := true }
def UnknownRoundTripsUptoSaid : Prop := unknownRoundTripsUptoRow.holds Try.pinned (OpenSpec.upto unknownRoundTripsSpec)

/-- 'wireschemalaw23.UnknownKeeps', WHERE WHAT IT READS IS OF BULK AT MOST 1048576: true; the input reads as it did. -/
def unknownKeepsUptoRow : OpenClaim := { program := "ytmgpiglpakideaa", sum := "a49c5c5ffd7ee1fb11c76353258be546c308916303d9a31dd2f8edbaf253fde3", func := "wireschema/wireschemalaw23.UnknownKeeps", spec := "unknownKeeps", inPlace := ["internal/abi.NoEscape"], unfollowed := true, recurses := true, apart := false, narrowed := true }
def UnknownKeepsUptoSaid : Prop := unknownKeepsUptoRow.holds Try.pinned (OpenSpec.upto unknownKeepsSpec)

/-- 'wireschemalaw23.UnknownJoins', WHERE WHAT IT READS IS OF BULK AT MOST 1048576: true; the input reads as it did. -/
def unknownJoinsUptoRow : OpenClaim := { program := "ytmgpiglpakideaa", sum := "a49c5c5ffd7ee1fb11c76353258be546c308916303d9a31dd2f8edbaf253fde3", func := "wireschema/wireschemalaw23.UnknownJoins", spec := "unknownJoins", inPlace := ["internal/abi.NoEscape"], unfollowed := true, recurses := true, apart := false, narrowed := true }
def UnknownJoinsUptoSaid : Prop := unknownJoinsUptoRow.holds Try.pinned (OpenSpec.upto unknownJoinsSpec)

/-- 'wireschemalaw23.UnknownLists', WHERE WHAT IT READS IS OF BULK AT MOST 1048576: true; the input reads as it did. -/
def unknownListsUptoRow : OpenClaim := { program := "ytmgpiglpakideaa", sum := "a49c5c5ffd7ee1fb11c76353258be546c308916303d9a31dd2f8edbaf253fde3", func := "wireschema/wireschemalaw23.UnknownLists", spec := "unknownLists", inPlace := ["internal/abi.NoEscape"], unfollowed := true, recurses := true, apart := false, narrowed := true }
def UnknownListsUptoSaid : Prop := unknownListsUptoRow.holds Try.pinned (OpenSpec.upto unknownListsSpec)

end Rows
end Go.Proofs.Ytmgpiglpakideaa
