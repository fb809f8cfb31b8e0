/-
  No cell of these rows narrows 'for every input' (looked for: loops, veiled, ifaces, maps, wideKeys, modest, calm, conditions, laid).
  DERIVED. THE GIVEN ROWS OF THIS SEAT. 6 by the template 'for every input the law returns true; each argument reads behind the call as it read before'; 0 by the template 'total and deterministic' (their statements: YtbclhpemdpoagaaTotals.lean).
  GIVEN WITH THE SEED: the statements are not yours to turn. If you find one false, say at which input.
  Laid BY PROGRAM, IN A SANDBOX (cutbox-rows.mjs): the forced cells as the released guide's own fill.sh prints them over the translation e52c4182b4bf1cdd… (all of the seat's roots in one cut). By AI agents, Wed Nov 11 2026. No macro, syntax, notation, axiom, sorry.
-/
import Derived.Test.YtbclhpemdpoagaaChecked
import GoSem.Claim
import GoSem.ClaimJoined
import GoSem.ClaimMapViews
import Derived.JoinedTies
import Derived.KernelRfl
namespace Go.Proofs.Ytbclhpemdpoagaa
/- THE CELL 'sum', in the pinned program and in every row, IS THE sha256 OF THE DUMP (.gsa) THAT YtbclhpemdpoagaaProg.lean LOADS. Nothing in Lean hashes anything: it is a label: what it is worth is what the hold of that sum in a sandbox is worth. -/
noncomputable def Try.pinned : Pinned := { name := "ytbclhpemdpoagaa", sum := "e52c4182b4bf1cdd8782b6a52d79ff520ea09033a6716baea60b0bfdc28717bd", checked := Try.checked }
namespace Rows
def none {H : Type} : Left H := { results := [], args := [] }

/-- 'wireschemalaw02.CursorOpens': WHATEVER THE INPUT: true; the input reads as it did. -/
def cursorOpensSpec : ChangeSpec := { name := "cursorOpens", fn := fun _ => fun
  | [d1, d2, d3] => { results := [.lit (.bool true)], args := [d1, d2, d3] }
  | _ => none }
def cursorOpensRow : OpenClaim := { program := "ytbclhpemdpoagaa", sum := "e52c4182b4bf1cdd8782b6a52d79ff520ea09033a6716baea60b0bfdc28717bd", func := "wireschema/wireschemalaw02.CursorOpens", spec := "cursorOpens", apart := false }
def CursorOpensSaid : Prop := cursorOpensRow.holds Try.pinned (OpenSpec.ofChange cursorOpensSpec)

/-- ITS FALSE NEIGHBOUR: 'it returns false'. Refute it at one input. -/
def cursorOpensWrong : ChangeSpec := { name := "cursorOpens", fn := fun _ => fun
  | [d1, d2, d3] => { results := [.lit (.bool false)], args := [d1, d2, d3] }
  | _ => none }
def CursorOpensWrongFalsely : Prop := cursorOpensRow.holds Try.pinned (OpenSpec.ofChange cursorOpensWrong)

/-- 'wireschemalaw02.CursorTexts': WHATEVER THE INPUT: true; the input reads as it did. -/
def cursorTextsSpec : ChangeSpec := { name := "cursorTexts", fn := fun _ => fun
  | [d1, d2] => { results := [.lit (.bool true)], args := [d1, d2] }
  | _ => none }
def cursorTextsRow : OpenClaim := { program := "ytbclhpemdpoagaa", sum := "e52c4182b4bf1cdd8782b6a52d79ff520ea09033a6716baea60b0bfdc28717bd", func := "wireschema/wireschemalaw02.CursorTexts", spec := "cursorTexts", apart := false }
def CursorTextsSaid : Prop := cursorTextsRow.holds Try.pinned (OpenSpec.ofChange cursorTextsSpec)

/-- ITS FALSE NEIGHBOUR: 'it returns false'. Refute it at one input. -/
def cursorTextsWrong : ChangeSpec := { name := "cursorTexts", fn := fun _ => fun
  | [d1, d2] => { results := [.lit (.bool false)], args := [d1, d2] }
  | _ => none }
def CursorTextsWrongFalsely : Prop := cursorTextsRow.holds Try.pinned (OpenSpec.ofChange cursorTextsWrong)

/-- 'wireschemalaw02.CursorLeaves': WHATEVER THE INPUT: true; the input reads as it did. -/
def cursorLeavesSpec : ChangeSpec := { name := "cursorLeaves", fn := fun _ => fun
  | [d1, d2] => { results := [.lit (.bool true)], args := [d1, d2] }
  | _ => none }
def cursorLeavesRow : OpenClaim := { program := "ytbclhpemdpoagaa", sum := "e52c4182b4bf1cdd8782b6a52d79ff520ea09033a6716baea60b0bfdc28717bd", func := "wireschema/wireschemalaw02.CursorLeaves", spec := "cursorLeaves", apart := false }
def CursorLeavesSaid : Prop := cursorLeavesRow.holds Try.pinned (OpenSpec.ofChange cursorLeavesSpec)

/-- ITS FALSE NEIGHBOUR: 'it returns false'. Refute it at one input. -/
def cursorLeavesWrong : ChangeSpec := { name := "cursorLeaves", fn := fun _ => fun
  | [d1, d2] => { results := [.lit (.bool false)], args := [d1, d2] }
  | _ => none }
def CursorLeavesWrongFalsely : Prop := cursorLeavesRow.holds Try.pinned (OpenSpec.ofChange cursorLeavesWrong)

/-- 'wireschemalaw02.CursorNumbers': WHATEVER THE INPUT: true; the input reads as it did. -/
def cursorNumbersSpec : ChangeSpec := { name := "cursorNumbers", fn := fun _ => fun
  | [d1, d2] => { results := [.lit (.bool true)], args := [d1, d2] }
  | _ => none }
def cursorNumbersRow : OpenClaim := { program := "ytbclhpemdpoagaa", sum := "e52c4182b4bf1cdd8782b6a52d79ff520ea09033a6716baea60b0bfdc28717bd", func := "wireschema/wireschemalaw02.CursorNumbers", spec := "cursorNumbers", apart := false }
def CursorNumbersSaid : Prop := cursorNumbersRow.holds Try.pinned (OpenSpec.ofChange cursorNumbersSpec)

/-- ITS FALSE NEIGHBOUR: 'it returns false'. Refute it at one input. -/
def cursorNumbersWrong : ChangeSpec := { name := "cursorNumbers", fn := fun _ => fun
  | [d1, d2] => { results := [.lit (.bool false)], args := [d1, d2] }
  | _ => none }
def CursorNumbersWrongFalsely : Prop := cursorNumbersRow.holds Try.pinned (OpenSpec.ofChange cursorNumbersWrong)

/-- 'wireschemalaw02.CursorRuns': WHATEVER THE INPUT: true; the input reads as it did. -/
def cursorRunsSpec : ChangeSpec := { name := "cursorRuns", fn := fun _ => fun
  | [d1, d2] => { results := [.lit (.bool true)], args := [d1, d2] }
  | _ => none }
def cursorRunsRow : OpenClaim := { program := "ytbclhpemdpoagaa", sum := "e52c4182b4bf1cdd8782b6a52d79ff520ea09033a6716baea60b0bfdc28717bd", func := "wireschema/wireschemalaw02.CursorRuns", spec := "cursorRuns", apart := false }
def CursorRunsSaid : Prop := cursorRunsRow.holds Try.pinned (OpenSpec.ofChange cursorRunsSpec)

/-- ITS FALSE NEIGHBOUR: 'it returns false'. Refute it at one input. -/
def cursorRunsWrong : ChangeSpec := { name := "cursorRuns", fn := fun _ => fun
  | [d1, d2] => { results := [.lit (.bool false)], args := [d1, d2] }
  | _ => none }
def CursorRunsWrongFalsely : Prop := cursorRunsRow.holds Try.pinned (OpenSpec.ofChange cursorRunsWrong)

/-- 'wireschemalaw02.CursorStays': WHATEVER THE INPUT: true; the input reads as it did. -/
def cursorStaysSpec : ChangeSpec := { name := "cursorStays", fn := fun _ => fun
  | [d1, d2] => { results := [.lit (.bool true)], args := [d1, d2] }
  | _ => none }
def cursorStaysRow : OpenClaim := { program := "ytbclhpemdpoagaa", sum := "e52c4182b4bf1cdd8782b6a52d79ff520ea09033a6716baea60b0bfdc28717bd", func := "wireschema/wireschemalaw02.CursorStays", spec := "cursorStays", apart := false }
def CursorStaysSaid : Prop := cursorStaysRow.holds Try.pinned (OpenSpec.ofChange cursorStaysSpec)

/-- ITS FALSE NEIGHBOUR: 'it returns false'. Refute it at one input. -/
def cursorStaysWrong : ChangeSpec := { name := "cursorStays", fn := fun _ => fun
  | [d1, d2] => { results := [.lit (.bool false)], args := [d1, d2] }
  | _ => none }
def CursorStaysWrongFalsely : Prop := cursorStaysRow.holds Try.pinned (OpenSpec.ofChange cursorStaysWrong)

/- THE SECOND FORM. 'bulk': how many values and letters a reading holds, each counted each time it is reached (what is shared counts as often as it is met; a slice's spare places count too). A statement '..UptoSaid' is the law's where the arguments, and the package variables that the reading takes, are together of bulk at most 1048576: NARROWER than '..Said'. Prove '..Said' where nothing that the law and all that it calls make is longer than what came in: it says more and counts as full. Else prove '..UptoSaid'. A law counts once. -/
mutual
def uptoBulk {H : Type} : DataW H → Nat
  | .lit (.string bytes) => bytes.length + 1
  | .lit _ => 1
  | .nil => 1
  | .ptr d => uptoBulk d + 1
  | .slice elems spare => uptoBulkAll elems + uptoBulkAll spare + 1
  | .agg parts => uptoBulkAll parts + 1
  | .iface _ d => uptoBulk d + 1
  | .map entries => uptoBulkEntries entries + 1
  | .held _ => 1
def uptoBulkAll {H : Type} : List (DataW H) → Nat
  | [] => 0
  | d :: r => uptoBulk d + uptoBulkAll r
def uptoBulkEntries {H : Type} : List (Lit × DataW H) → Nat
  | [] => 0
  | x :: r => uptoBulkEntry x + uptoBulkEntries r
def uptoBulkEntry {H : Type} : Lit × DataW H → Nat
  | (.string bytes, d) => bytes.length + uptoBulk d + 1
  | (_, d) => uptoBulk d + 1
 end
def uptoSmall : (H : Type) → List (DataW H) → Bool := fun _ ds => decide (uptoBulkAll ds ≤ 1048576)
def OpenSpec.upto (s : _root_.Go.ChangeSpec) : _root_.Go.OpenSpec := { _root_.Go.OpenSpec.ofChange s with cond := some uptoSmall }

/-- 'wireschemalaw02.CursorOpens', WHERE WHAT IT READS IS OF BULK AT MOST 1048576: true; the input reads as it did. -/
def cursorOpensUptoRow : OpenClaim := { program := "ytbclhpemdpoagaa", sum := "e52c4182b4bf1cdd8782b6a52d79ff520ea09033a6716baea60b0bfdc28717bd", func := "wireschema/wireschemalaw02.CursorOpens", spec := "cursorOpens", apart := false, narrowed := true }
def CursorOpensUptoSaid : Prop := cursorOpensUptoRow.holds Try.pinned (OpenSpec.upto cursorOpensSpec)

/-- 'wireschemalaw02.CursorTexts', WHERE WHAT IT READS IS OF BULK AT MOST 1048576: true; the input reads as it did. -/
def cursorTextsUptoRow : OpenClaim := { program := "ytbclhpemdpoagaa", sum := "e52c4182b4bf1cdd8782b6a52d79ff520ea09033a6716baea60b0bfdc28717bd", func := "wireschema/wireschemalaw02.CursorTexts", spec := "cursorTexts", apart := false, narrowed := true }
def CursorTextsUptoSaid : Prop := cursorTextsUptoRow.holds Try.pinned (OpenSpec.upto cursorTextsSpec)

/-- 'wireschemalaw02.CursorLeaves', WHERE WHAT IT READS IS OF BULK AT MOST 1048576: true; the input reads as it did. -/
def cursorLeavesUptoRow : OpenClaim := { program := "ytbclhpemdpoagaa", sum := "e52c4182b4bf1cdd8782b6a52d79ff520ea09033a6716baea60b0bfdc28717bd", func := "wireschema/wireschemalaw02.CursorLeaves", spec := "cursorLeaves", apart := false, narrowed := true }
def CursorLeavesUptoSaid : Prop := cursorLeavesUptoRow.holds Try.pinned (OpenSpec.upto cursorLeavesSpec)

/-- 'wireschemalaw02.CursorNumbers', WHERE WHAT IT READS IS OF BULK AT MOST 1048576: true; the input reads as it did. -/
def cursorNumbersUptoRow : OpenClaim := { program := "ytbclhpemdpoagaa", sum := "e52c4182b4bf1cdd8782b6a52d79ff520ea09033a6716baea60b0bfdc28717bd", func := "wireschema/wireschemalaw02.CursorNumbers", spec := "cursorNumbers", apart := false, narrowed := true }
def CursorNumbersUptoSaid : Prop := cursorNumbersUptoRow.holds Try.pinned (OpenSpec.upto cursorNumbersSpec)

/-- 'wireschemalaw02.CursorRuns', WHERE WHAT IT READS IS OF BULK AT MOST 1048576: true; the input reads as it did. -/
def cursorRunsUptoRow : OpenClaim := { program := "ytbclhpemdpoagaa", sum := "e52c4182b4bf1cdd8782b6a52d79ff520ea09033a6716baea60b0bfdc28717bd", func := "wireschema/wireschemalaw02.CursorRuns", spec := "cursorRuns", apart := false, narrowed := true }
def CursorRunsUptoSaid : Prop := cursorRunsUptoRow.holds Try.pinned (OpenSpec.upto cursorRunsSpec)

/-- 'wireschemalaw02.CursorStays', WHERE WHAT IT READS IS OF BULK AT MOST 1048576: true; the input reads as it did. -/
def cursorStaysUptoRow : OpenClaim := { program := "ytbclhpemdpoagaa", sum := "e52c4182b4bf1cdd8782b6a52d79ff520ea09033a6716baea60b0bfdc28717bd", func := "wireschema/wireschemalaw02.CursorStays", spec := "cursorStays", apart := false, narrowed := true }
def CursorStaysUptoSaid : Prop := cursorStaysUptoRow.holds Try.pinned (OpenSpec.upto cursorStaysSpec)

end Rows
end Go.Proofs.Ytbclhpemdpoagaa
