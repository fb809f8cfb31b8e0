/-
  No cell of these rows narrows 'for every input' (looked for: loops, veiled, ifaces, maps, wideKeys, modest, calm, conditions, laid).
  DERIVED. THE GIVEN ROWS OF THIS SEAT. 7 by the template 'for every input the law returns true; each argument reads behind the call as it read before'; 0 by the template 'total and deterministic' (their statements: YtcmdlmcmefbkeaaTotals.lean).
  GIVEN WITH THE SEED: the statements are not yours to turn. If you find one false, say at which input.
  Laid BY PROGRAM, IN A SANDBOX (cutbox-rows.mjs): the forced cells as the released guide's own fill.sh prints them over the translation 47da2674d2df044a… (all of the seat's roots in one cut). By AI agents, Wed Nov 11 2026. No macro, syntax, notation, axiom, sorry.
-/
import Derived.Test.YtcmdlmcmefbkeaaChecked
import GoSem.Claim
import GoSem.ClaimJoined
import GoSem.ClaimMapViews
import Derived.JoinedTies
import Derived.KernelRfl
namespace Go.Proofs.Ytcmdlmcmefbkeaa
/- THE CELL 'sum', in the pinned program and in every row, IS THE sha256 OF THE DUMP (.gsa) THAT YtcmdlmcmefbkeaaProg.lean LOADS. Nothing in Lean hashes anything: it is a label: what it is worth is what the hold of that sum in a sandbox is worth. -/
noncomputable def Try.pinned : Pinned := { name := "ytcmdlmcmefbkeaa", sum := "47da2674d2df044a7e2609a2e0665213e99355e4feffca4a977db2a415071efc", checked := Try.checked }
namespace Rows
def none {H : Type} : Left H := { results := [], args := [] }

/-- 'wireschemalaw23.UnknownTags': WHATEVER THE INPUT: true; the input reads as it did. -/
def unknownTagsSpec : ChangeSpec := { name := "unknownTags", fn := fun _ => fun
  | [d1, d2, d3] => { results := [.lit (.bool true)], args := [d1, d2, d3] }
  | _ => none }
def unknownTagsRow : OpenClaim := { program := "ytcmdlmcmefbkeaa", sum := "47da2674d2df044a7e2609a2e0665213e99355e4feffca4a977db2a415071efc", func := "wireschema/wireschemalaw23.UnknownTags", spec := "unknownTags", inPlace := ["internal/abi.NoEscape"], unfollowed := true, recurses := true, apart := false }
def UnknownTagsSaid : Prop := unknownTagsRow.holds Try.pinned (OpenSpec.ofChange unknownTagsSpec)

/-- ITS FALSE NEIGHBOUR: 'it returns false'. Refute it at one input. -/
def unknownTagsWrong : ChangeSpec := { name := "unknownTags", fn := fun _ => fun
  | [d1, d2, d3] => { results := [.lit (.bool false)], args := [d1, d2, d3] }
  | _ => none }
def UnknownTagsWrongFalsely : Prop := unknownTagsRow.holds Try.pinned (OpenSpec.ofChange unknownTagsWrong)

/-- 'wireschemalaw23.UnknownNext': WHATEVER THE INPUT: true; the input reads as it did. -/
def unknownNextSpec : ChangeSpec := { name := "unknownNext", fn := fun _ => fun
  | [d] => { results := [.lit (.bool true)], args := [d] }
  | _ => none }
def unknownNextRow : OpenClaim := { program := "ytcmdlmcmefbkeaa", sum := "47da2674d2df044a7e2609a2e0665213e99355e4feffca4a977db2a415071efc", func := "wireschema/wireschemalaw23.UnknownNext", spec := "unknownNext", inPlace := ["internal/abi.NoEscape"], unfollowed := true, recurses := true, apart := false }
def UnknownNextSaid : Prop := unknownNextRow.holds Try.pinned (OpenSpec.ofChange unknownNextSpec)

/-- ITS FALSE NEIGHBOUR: 'it returns false'. Refute it at one input. -/
def unknownNextWrong : ChangeSpec := { name := "unknownNext", fn := fun _ => fun
  | [d] => { results := [.lit (.bool false)], args := [d] }
  | _ => none }
def UnknownNextWrongFalsely : Prop := unknownNextRow.holds Try.pinned (OpenSpec.ofChange unknownNextWrong)

/-- 'wireschemalaw23.UnknownScans': WHATEVER THE INPUT: true; the input reads as it did. -/
def unknownScansSpec : ChangeSpec := { name := "unknownScans", fn := fun _ => fun
  | [d1, d2] => { results := [.lit (.bool true)], args := [d1, d2] }
  | _ => none }
def unknownScansRow : OpenClaim := { program := "ytcmdlmcmefbkeaa", sum := "47da2674d2df044a7e2609a2e0665213e99355e4feffca4a977db2a415071efc", func := "wireschema/wireschemalaw23.UnknownScans", spec := "unknownScans", inPlace := ["internal/abi.NoEscape"], unfollowed := true, recurses := true, apart := false }
def UnknownScansSaid : Prop := unknownScansRow.holds Try.pinned (OpenSpec.ofChange unknownScansSpec)

/-- ITS FALSE NEIGHBOUR: 'it returns false'. Refute it at one input. -/
def unknownScansWrong : ChangeSpec := { name := "unknownScans", fn := fun _ => fun
  | [d1, d2] => { results := [.lit (.bool false)], args := [d1, d2] }
  | _ => none }
def UnknownScansWrongFalsely : Prop := unknownScansRow.holds Try.pinned (OpenSpec.ofChange unknownScansWrong)

/-- 'wireschemalaw23.UnknownRoundTrips': WHATEVER THE INPUT: true; the input reads as it did. -/
def unknownRoundTripsSpec : ChangeSpec := { name := "unknownRoundTrips", fn := fun _ => fun
  | [d] => { results := [.lit (.bool true)], args := [d] }
  | _ => none }
def unknownRoundTripsRow : OpenClaim := { program := "ytcmdlmcmefbkeaa", sum := "47da2674d2df044a7e2609a2e0665213e99355e4feffca4a977db2a415071efc", func := "wireschema/wireschemalaw23.UnknownRoundTrips", spec := "unknownRoundTrips", inPlace := ["internal/abi.NoEscape"], unfollowed := true, recurses := true, apart := false }
def UnknownRoundTripsSaid : Prop := unknownRoundTripsRow.holds Try.pinned (OpenSpec.ofChange unknownRoundTripsSpec)

/-- ITS FALSE NEIGHBOUR: 'it returns false'. Refute it at one input. -/
def unknownRoundTripsWrong : ChangeSpec := { name := "unknownRoundTrips", fn := fun _ => fun
  | [d] => { results := [.lit (.bool false)], args := [d] }
  | _ => none }
def UnknownRoundTripsWrongFalsely : Prop := unknownRoundTripsRow.holds Try.pinned (OpenSpec.ofChange unknownRoundTripsWrong)

/-- 'wireschemalaw23.UnknownKeeps': WHATEVER THE INPUT: true; the input reads as it did. -/
def unknownKeepsSpec : ChangeSpec := { name := "unknownKeeps", fn := fun _ => fun
  | [d1, d2] => { results := [.lit (.bool true)], args := [d1, d2] }
  | _ => none }
def unknownKeepsRow : OpenClaim := { program := "ytcmdlmcmefbkeaa", sum := "47da2674d2df044a7e2609a2e0665213e99355e4feffca4a977db2a415071efc", func := "wireschema/wireschemalaw23.UnknownKeeps", spec := "unknownKeeps", inPlace := ["internal/abi.NoEscape"], unfollowed := true, recurses := true, apart := false }
def UnknownKeepsSaid : Prop := unknownKeepsRow.holds Try.pinned (OpenSpec.ofChange unknownKeepsSpec)

/-- ITS FALSE NEIGHBOUR: 'it returns false'. Refute it at one input. -/
def unknownKeepsWrong : ChangeSpec := { name := "unknownKeeps", fn := fun _ => fun
  | [d1, d2] => { results := [.lit (.bool false)], args := [d1, d2] }
  | _ => none }
def UnknownKeepsWrongFalsely : Prop := unknownKeepsRow.holds Try.pinned (OpenSpec.ofChange unknownKeepsWrong)

/-- 'wireschemalaw23.UnknownJoins': WHATEVER THE INPUT: true; the input reads as it did. -/
def unknownJoinsSpec : ChangeSpec := { name := "unknownJoins", fn := fun _ => fun
  | [d1, d2] => { results := [.lit (.bool true)], args := [d1, d2] }
  | _ => none }
def unknownJoinsRow : OpenClaim := { program := "ytcmdlmcmefbkeaa", sum := "47da2674d2df044a7e2609a2e0665213e99355e4feffca4a977db2a415071efc", func := "wireschema/wireschemalaw23.UnknownJoins", spec := "unknownJoins", inPlace := ["internal/abi.NoEscape"], unfollowed := true, recurses := true, apart := false }
def UnknownJoinsSaid : Prop := unknownJoinsRow.holds Try.pinned (OpenSpec.ofChange unknownJoinsSpec)

/-- ITS FALSE NEIGHBOUR: 'it returns false'. Refute it at one input. -/
def unknownJoinsWrong : ChangeSpec := { name := "unknownJoins", fn := fun _ => fun
  | [d1, d2] => { results := [.lit (.bool false)], args := [d1, d2] }
  | _ => none }
def UnknownJoinsWrongFalsely : Prop := unknownJoinsRow.holds Try.pinned (OpenSpec.ofChange unknownJoinsWrong)

/-- 'wireschemalaw23.UnknownLists': WHATEVER THE INPUT: true; the input reads as it did. -/
def unknownListsSpec : ChangeSpec := { name := "unknownLists", fn := fun _ => fun
  | [d1, d2] => { results := [.lit (.bool true)], args := [d1, d2] }
  | _ => none }
def unknownListsRow : OpenClaim := { program := "ytcmdlmcmefbkeaa", sum := "47da2674d2df044a7e2609a2e0665213e99355e4feffca4a977db2a415071efc", func := "wireschema/wireschemalaw23.UnknownLists", spec := "unknownLists", inPlace := ["internal/abi.NoEscape"], unfollowed := true, recurses := true, apart := false }
def UnknownListsSaid : Prop := unknownListsRow.holds Try.pinned (OpenSpec.ofChange unknownListsSpec)

/-- ITS FALSE NEIGHBOUR: 'it returns false'. Refute it at one input. -/
def unknownListsWrong : ChangeSpec := { name := "unknownLists", fn := fun _ => fun
  | [d1, d2] => { results := [.lit (.bool false)], args := [d1, d2] }
  | _ => none }
def UnknownListsWrongFalsely : Prop := unknownListsRow.holds Try.pinned (OpenSpec.ofChange unknownListsWrong)

/- THE SECOND FORM. 'bulk': how many values and letters a reading holds, each counted each time it is reached (what is shared counts as often as it is met; a slice's spare places count too). A statement '..UptoSaid' is the law's where the arguments, and the package variables that the reading takes, are together of bulk at most 1048576: NARROWER than '..Said'. Prove '..Said' where nothing that the law and all that it calls make is longer than what came in: it says more and counts as full. Else prove '..UptoSaid'. A law counts once. -/
mutual
def uptoBulk {H : Type} : DataW H → Nat
  | .lit (.string bytes) => bytes.length + 1
  | .lit _ => 1
  | .nil => 1
  | .ptr d => uptoBulk d + 1
  | .slice elems spare => uptoBulkAll elems + uptoBulkAll spare + 1
  | .agg parts => uptoBulkAll parts + 1
  | .iface _ d => uptoBulk d + 1
  | .map entries => uptoBulkEntries entries + 1
  | .held _ => 1
def uptoBulkAll {H : Type} : List (DataW H) → Nat
  | [] => 0
  | d :: r => uptoBulk d + uptoBulkAll r
def uptoBulkEntries {H : Type} : List (Lit × DataW H) → Nat
  | [] => 0
  | x :: r => uptoBulkEntry x + uptoBulkEntries r
def uptoBulkEntry {H : Type} : Lit × DataW H → Nat
  | (.string bytes, d) => bytes.length + uptoBulk d + 1
  | (_, d) => uptoBulk d + 1
 end
def uptoSmall : (H : Type) → List (DataW H) → Bool := fun _ ds => decide (uptoBulkAll ds ≤ 1048576)
def OpenSpec.upto (s : _root_.Go.ChangeSpec) : _root_.Go.OpenSpec := { _root_.Go.OpenSpec.ofChange s with cond := some uptoSmall }

/-- 'wireschemalaw23.UnknownTags', WHERE WHAT IT READS IS OF BULK AT MOST 1048576: true; the input reads as it did. -/
def unknownTagsUptoRow : OpenClaim := { program := "ytcmdlmcmefbkeaa", sum := "47da2674d2df044a7e2609a2e0665213e99355e4feffca4a977db2a415071efc", func := "wireschema/wireschemalaw23.UnknownTags", spec := "unknownTags", inPlace := ["internal/abi.NoEscape"], unfollowed := true, recurses := true, apart := false, narrowed := true }
def UnknownTagsUptoSaid : Prop := unknownTagsUptoRow.holds Try.pinned (OpenSpec.upto unknownTagsSpec)

/-- 'wireschemalaw23.UnknownNext', WHERE WHAT IT READS IS OF BULK AT MOST 1048576: true; the input reads as it did. -/
def unknownNextUptoRow : OpenClaim := { program := "ytcmdlmcmefbkeaa", sum := "47da2674d2df044a7e2609a2e0665213e99355e4feffca4a977db2a415071efc", func := "wireschema/wireschemalaw23.UnknownNext", spec := "unknownNext", inPlace := ["internal/abi.NoEscape"], unfollowed := true, recurses := true, apart := false, narrowed := true }
def UnknownNextUptoSaid : Prop := unknownNextUptoRow.holds Try.pinned (OpenSpec.upto unknownNextSpec)

/-- 'wireschemalaw23.UnknownScans', WHERE WHAT IT READS IS OF BULK AT MOST 1048576: true; the input reads as it did. -/
def unknownScansUptoRow : OpenClaim := { program := "ytcmdlmcmefbkeaa", sum := "47da2674d2df044a7e2609a2e0665213e99355e4feffca4a977db2a415071efc", func := "wireschema/wireschemalaw23.UnknownScans", spec := "unknownScans", inPlace := ["internal/abi.NoEscape"], unfollowed := true, recurses := true, apart := false, narrowed := true }
def UnknownScansUptoSaid : Prop := unknownScansUptoRow.holds Try.pinned (OpenSpec.upto unknownScansSpec)

/-- 'wireschemalaw23.UnknownRoundTrips', WHERE WHAT IT READS IS OF BULK AT MOST 1048576: true; the input reads as it did. -/
def unknownRoundTripsUptoRow : OpenClaim := { program := "ytcmdlmcmefbkeaa", sum := "47da2674d2df044a7e2609a2e0665213e99355e4feffca4a977db2a415071efc", func := "wireschema/wireschemalaw23.UnknownRoundTrips", spec := "unknownRoundTrips", inPlace := ["internal/abi.NoEscape"], unfollowed := true, recurses := true, apart := false, narrowed := true }
def UnknownRoundTripsUptoSaid : Prop := unknownRoundTripsUptoRow.holds Try.pinned (OpenSpec.upto unknownRoundTripsSpec)

/-- 'wireschemalaw23.UnknownKeeps', WHERE WHAT IT READS IS OF BULK AT MOST 1048576: true; the input reads as it did. -/
def unknownKeepsUptoRow : OpenClaim := { program := "ytcmdlmcmefbkeaa", sum := "47da2674d2df044a7e2609a2e0665213e99355e4feffca4a977db2a415071efc", func := "wireschema/wireschemalaw23.UnknownKeeps", spec := "unknownKeeps", inPlace := ["internal/abi.NoEscape"], unfollowed := true, recurses := true, apart := false, narrowed := true }
def UnknownKeepsUptoSaid : Prop := unknownKeepsUptoRow.holds Try.pinned (OpenSpec.upto unknownKeepsSpec)

/-- 'wireschemalaw23.UnknownJoins', WHERE WHAT IT READS IS OF BULK AT MOST 1048576: true; the input reads as it did. -/
def unknownJoinsUptoRow : OpenClaim := { program := "ytcmdlmcmefbkeaa", sum := "47da2674d2df044a7e2609a2e0665213e99355e4feffca4a977db2a415071efc", func := "wireschema/wireschemalaw23.UnknownJoins", spec := "unknownJoins", inPlace := ["internal/abi.NoEscape"], unfollowed := true, recurses := true, apart := false, narrowed := true }
def UnknownJoinsUptoSaid : Prop := unknownJoinsUptoRow.holds Try.pinned (OpenSpec.upto unknownJoinsSpec)

/-- 'wireschemalaw23.UnknownLists', WHERE WHAT IT READS IS OF BULK AT MOST 1048576: true; the input reads as it did. -/
def unknownListsUptoRow : OpenClaim := { program := "ytcmdlmcmefbkeaa", sum := "47da2674d2df044a7e2609a2e0665213e99355e4feffca4a977db2a415071efc", func := "wireschema/wireschemalaw23.UnknownLists", spec := "unknownLists", inPlace := ["internal/abi.NoEscape"], unfollowed := true, recurses := true, apart := false, narrowed := true }
def UnknownListsUptoSaid : Prop := unknownListsUptoRow.holds Try.pinned (OpenSpec.upto unknownListsSpec)

end Rows
end Go.Proofs.Ytcmdlmcmefbkeaa
