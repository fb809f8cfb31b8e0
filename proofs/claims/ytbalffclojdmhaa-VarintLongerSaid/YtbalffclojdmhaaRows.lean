/-
  No cell of these rows narrows 'for every input' (looked for: loops, veiled, ifaces, maps, wideKeys, modest, calm, conditions, laid).
  DERIVED. THE GIVEN ROWS OF THIS SEAT. 7 by the template 'for every input the law returns true; each argument reads behind the call as it read before'; 0 by the template 'total and deterministic' (their statements: YtbalffclojdmhaaTotals.lean).
  GIVEN WITH THE SEED: the statements are not yours to turn. If you find one false, say at which input.
  Laid BY PROGRAM, IN A SANDBOX (cutbox-rows.mjs): the forced cells as the released guide's own fill.sh prints them over the translation 678be62bb7fb43a0… (all of the seat's roots in one cut). By AI agents, Wed Nov 11 2026. No macro, syntax, notation, axiom, sorry.
-/
import Derived.Test.YtbalffclojdmhaaChecked
import GoSem.Claim
import GoSem.ClaimJoined
import GoSem.ClaimMapViews
import Derived.JoinedTies
import Derived.KernelRfl
namespace Go.Proofs.Ytbalffclojdmhaa
/- THE CELL 'sum', in the pinned program and in every row, IS THE sha256 OF THE DUMP (.gsa) THAT YtbalffclojdmhaaProg.lean LOADS. Nothing in Lean hashes anything: it is a label: what it is worth is what the hold of that sum in a sandbox is worth. -/
noncomputable def Try.pinned : Pinned := { name := "ytbalffclojdmhaa", sum := "678be62bb7fb43a012095be335ff80d39cf06a909b0da023fbd95c5fe4a93151", checked := Try.checked }
namespace Rows
def none {H : Type} : Left H := { results := [], args := [] }

/-- 'wireschemalaw01.VarintZigs': WHATEVER THE INPUT: true; the input reads as it did. -/
def varintZigsSpec : ChangeSpec := { name := "varintZigs", fn := fun _ => fun
  | [d1, d2] => { results := [.lit (.bool true)], args := [d1, d2] }
  | _ => none }
def varintZigsRow : OpenClaim := { program := "ytbalffclojdmhaa", sum := "678be62bb7fb43a012095be335ff80d39cf06a909b0da023fbd95c5fe4a93151", func := "wireschema/wireschemalaw01.VarintZigs", spec := "varintZigs", apart := false }
def VarintZigsSaid : Prop := varintZigsRow.holds Try.pinned (OpenSpec.ofChange varintZigsSpec)

/-- ITS FALSE NEIGHBOUR: 'it returns false'. Refute it at one input. -/
def varintZigsWrong : ChangeSpec := { name := "varintZigs", fn := fun _ => fun
  | [d1, d2] => { results := [.lit (.bool false)], args := [d1, d2] }
  | _ => none }
def VarintZigsWrongFalsely : Prop := varintZigsRow.holds Try.pinned (OpenSpec.ofChange varintZigsWrong)

/-- 'wireschemalaw01.VarintGrows': WHATEVER THE INPUT: true; the input reads as it did. -/
def varintGrowsSpec : ChangeSpec := { name := "varintGrows", fn := fun _ => fun
  | [d1, d2] => { results := [.lit (.bool true)], args := [d1, d2] }
  | _ => none }
def varintGrowsRow : OpenClaim := { program := "ytbalffclojdmhaa", sum := "678be62bb7fb43a012095be335ff80d39cf06a909b0da023fbd95c5fe4a93151", func := "wireschema/wireschemalaw01.VarintGrows", spec := "varintGrows", apart := false }
def VarintGrowsSaid : Prop := varintGrowsRow.holds Try.pinned (OpenSpec.ofChange varintGrowsSpec)

/-- ITS FALSE NEIGHBOUR: 'it returns false'. Refute it at one input. -/
def varintGrowsWrong : ChangeSpec := { name := "varintGrows", fn := fun _ => fun
  | [d1, d2] => { results := [.lit (.bool false)], args := [d1, d2] }
  | _ => none }
def VarintGrowsWrongFalsely : Prop := varintGrowsRow.holds Try.pinned (OpenSpec.ofChange varintGrowsWrong)

/-- 'wireschemalaw01.VarintPuts': WHATEVER THE INPUT: true; the input reads as it did. -/
def varintPutsSpec : ChangeSpec := { name := "varintPuts", fn := fun _ => fun
  | [d] => { results := [.lit (.bool true)], args := [d] }
  | _ => none }
def varintPutsRow : OpenClaim := { program := "ytbalffclojdmhaa", sum := "678be62bb7fb43a012095be335ff80d39cf06a909b0da023fbd95c5fe4a93151", func := "wireschema/wireschemalaw01.VarintPuts", spec := "varintPuts", apart := false }
def VarintPutsSaid : Prop := varintPutsRow.holds Try.pinned (OpenSpec.ofChange varintPutsSpec)

/-- ITS FALSE NEIGHBOUR: 'it returns false'. Refute it at one input. -/
def varintPutsWrong : ChangeSpec := { name := "varintPuts", fn := fun _ => fun
  | [d] => { results := [.lit (.bool false)], args := [d] }
  | _ => none }
def VarintPutsWrongFalsely : Prop := varintPutsRow.holds Try.pinned (OpenSpec.ofChange varintPutsWrong)

/-- 'wireschemalaw01.VarintFixed': WHATEVER THE INPUT: true; the input reads as it did. -/
def varintFixedSpec : ChangeSpec := { name := "varintFixed", fn := fun _ => fun
  | [d1, d2] => { results := [.lit (.bool true)], args := [d1, d2] }
  | _ => none }
def varintFixedRow : OpenClaim := { program := "ytbalffclojdmhaa", sum := "678be62bb7fb43a012095be335ff80d39cf06a909b0da023fbd95c5fe4a93151", func := "wireschema/wireschemalaw01.VarintFixed", spec := "varintFixed", apart := false }
def VarintFixedSaid : Prop := varintFixedRow.holds Try.pinned (OpenSpec.ofChange varintFixedSpec)

/-- ITS FALSE NEIGHBOUR: 'it returns false'. Refute it at one input. -/
def varintFixedWrong : ChangeSpec := { name := "varintFixed", fn := fun _ => fun
  | [d1, d2] => { results := [.lit (.bool false)], args := [d1, d2] }
  | _ => none }
def VarintFixedWrongFalsely : Prop := varintFixedRow.holds Try.pinned (OpenSpec.ofChange varintFixedWrong)

/-- 'wireschemalaw01.VarintTakes': WHATEVER THE INPUT: true; the input reads as it did. -/
def varintTakesSpec : ChangeSpec := { name := "varintTakes", fn := fun _ => fun
  | [d] => { results := [.lit (.bool true)], args := [d] }
  | _ => none }
def varintTakesRow : OpenClaim := { program := "ytbalffclojdmhaa", sum := "678be62bb7fb43a012095be335ff80d39cf06a909b0da023fbd95c5fe4a93151", func := "wireschema/wireschemalaw01.VarintTakes", spec := "varintTakes", apart := false }
def VarintTakesSaid : Prop := varintTakesRow.holds Try.pinned (OpenSpec.ofChange varintTakesSpec)

/-- ITS FALSE NEIGHBOUR: 'it returns false'. Refute it at one input. -/
def varintTakesWrong : ChangeSpec := { name := "varintTakes", fn := fun _ => fun
  | [d] => { results := [.lit (.bool false)], args := [d] }
  | _ => none }
def VarintTakesWrongFalsely : Prop := varintTakesRow.holds Try.pinned (OpenSpec.ofChange varintTakesWrong)

/-- 'wireschemalaw01.VarintLonger': WHATEVER THE INPUT: true; the input reads as it did. -/
def varintLongerSpec : ChangeSpec := { name := "varintLonger", fn := fun _ => fun
  | [d1, d2] => { results := [.lit (.bool true)], args := [d1, d2] }
  | _ => none }
def varintLongerRow : OpenClaim := { program := "ytbalffclojdmhaa", sum := "678be62bb7fb43a012095be335ff80d39cf06a909b0da023fbd95c5fe4a93151", func := "wireschema/wireschemalaw01.VarintLonger", spec := "varintLonger", apart := false }
def VarintLongerSaid : Prop := varintLongerRow.holds Try.pinned (OpenSpec.ofChange varintLongerSpec)

/-- ITS FALSE NEIGHBOUR: 'it returns false'. Refute it at one input. -/
def varintLongerWrong : ChangeSpec := { name := "varintLonger", fn := fun _ => fun
  | [d1, d2] => { results := [.lit (.bool false)], args := [d1, d2] }
  | _ => none }
def VarintLongerWrongFalsely : Prop := varintLongerRow.holds Try.pinned (OpenSpec.ofChange varintLongerWrong)

/-- 'wireschemalaw01.VarintRoundTrips': WHATEVER THE INPUT: true; the input reads as it did. -/
def varintRoundTripsSpec : ChangeSpec := { name := "varintRoundTrips", fn := fun _ => fun
  | [d1, d2] => { results := [.lit (.bool true)], args := [d1, d2] }
  | _ => none }
def varintRoundTripsRow : OpenClaim := { program := "ytbalffclojdmhaa", sum := "678be62bb7fb43a012095be335ff80d39cf06a909b0da023fbd95c5fe4a93151", func := "wireschema/wireschemalaw01.VarintRoundTrips", spec := "varintRoundTrips", apart := false }
def VarintRoundTripsSaid : Prop := varintRoundTripsRow.holds Try.pinned (OpenSpec.ofChange varintRoundTripsSpec)

/-- ITS FALSE NEIGHBOUR: 'it returns false'. Refute it at one input. -/
def varintRoundTripsWrong : ChangeSpec := { name := "varintRoundTrips", fn := fun _ => fun
  | [d1, d2] => { results := [.lit (.bool false)], args := [d1, d2] }
  | _ => none }
def VarintRoundTripsWrongFalsely : Prop := varintRoundTripsRow.holds Try.pinned (OpenSpec.ofChange varintRoundTripsWrong)

/- THE SECOND FORM. 'bulk': how many values and letters a reading holds, each counted each time it is reached (what is shared counts as often as it is met; a slice's spare places count too). A statement '..UptoSaid' is the law's where the arguments, and the package variables that the reading takes, are together of bulk at most 1048576: NARROWER than '..Said'. Prove '..Said' where nothing that the law and all that it calls make is longer than what came in: it says more and counts as full. Else prove '..UptoSaid'. A law counts once. -/
mutual
def uptoBulk {H : Type} : DataW H → Nat
  | .lit (.string bytes) => bytes.length + 1
  | .lit _ => 1
  | .nil => 1
  | .ptr d => uptoBulk d + 1
  | .slice elems spare => uptoBulkAll elems + uptoBulkAll spare + 1
  | .agg parts => uptoBulkAll parts + 1
  | .iface _ d => uptoBulk d + 1
  | .map entries => uptoBulkEntries entries + 1
  | .held _ => 1
def uptoBulkAll {H : Type} : List (DataW H) → Nat
  | [] => 0
  | d :: r => uptoBulk d + uptoBulkAll r
def uptoBulkEntries {H : Type} : List (Lit × DataW H) → Nat
  | [] => 0
  | x :: r => uptoBulkEntry x + uptoBulkEntries r
def uptoBulkEntry {H : Type} : Lit × DataW H → Nat
  | (.string bytes, d) => bytes.length + uptoBulk d + 1
  | (_, d) => uptoBulk d + 1
 end
def uptoSmall : (H : Type) → List (DataW H) → Bool := fun _ ds => decide (uptoBulkAll ds ≤ 1048576)
def OpenSpec.upto (s : _root_.Go.ChangeSpec) : _root_.Go.OpenSpec := { _root_.Go.OpenSpec.ofChange s with cond := some uptoSmall }

/-- 'wireschemalaw01.VarintZigs', WHERE WHAT IT READS IS OF BULK AT MOST 1048576: true; the input reads as it did. -/
def varintZigsUptoRow : OpenClaim := { program := "ytbalffclojdmhaa", sum := "678be62bb7fb43a012095be335ff80d39cf06a909b0da023fbd95c5fe4a93151", func := "wireschema/wireschemalaw01.VarintZigs", spec := "varintZigs", apart := false, narrowed := true }
def VarintZigsUptoSaid : Prop := varintZigsUptoRow.holds Try.pinned (OpenSpec.upto varintZigsSpec)

/-- 'wireschemalaw01.VarintGrows', WHERE WHAT IT READS IS OF BULK AT MOST 1048576: true; the input reads as it did. -/
def varintGrowsUptoRow : OpenClaim := { program := "ytbalffclojdmhaa", sum := "678be62bb7fb43a012095be335ff80d39cf06a909b0da023fbd95c5fe4a93151", func := "wireschema/wireschemalaw01.VarintGrows", spec := "varintGrows", apart := false, narrowed := true }
def VarintGrowsUptoSaid : Prop := varintGrowsUptoRow.holds Try.pinned (OpenSpec.upto varintGrowsSpec)

/-- 'wireschemalaw01.VarintPuts', WHERE WHAT IT READS IS OF BULK AT MOST 1048576: true; the input reads as it did. -/
def varintPutsUptoRow : OpenClaim := { program := "ytbalffclojdmhaa", sum := "678be62bb7fb43a012095be335ff80d39cf06a909b0da023fbd95c5fe4a93151", func := "wireschema/wireschemalaw01.VarintPuts", spec := "varintPuts", apart := false, narrowed := true }
def VarintPutsUptoSaid : Prop := varintPutsUptoRow.holds Try.pinned (OpenSpec.upto varintPutsSpec)

/-- 'wireschemalaw01.VarintFixed', WHERE WHAT IT READS IS OF BULK AT MOST 1048576: true; the input reads as it did. -/
def varintFixedUptoRow : OpenClaim := { program := "ytbalffclojdmhaa", sum := "678be62bb7fb43a012095be335ff80d39cf06a909b0da023fbd95c5fe4a93151", func := "wireschema/wireschemalaw01.VarintFixed", spec := "varintFixed", apart := false, narrowed := true }
def VarintFixedUptoSaid : Prop := varintFixedUptoRow.holds Try.pinned (OpenSpec.upto varintFixedSpec)

/-- 'wireschemalaw01.VarintTakes', WHERE WHAT IT READS IS OF BULK AT MOST 1048576: true; the input reads as it did. -/
def varintTakesUptoRow : OpenClaim := { program := "ytbalffclojdmhaa", sum := "678be62bb7fb43a012095be335ff80d39cf06a909b0da023fbd95c5fe4a93151", func := "wireschema/wireschemalaw01.VarintTakes", spec := "varintTakes", apart := false, narrowed := true }
def VarintTakesUptoSaid : Prop := varintTakesUptoRow.holds Try.pinned (OpenSpec.upto varintTakesSpec)

/-- 'wireschemalaw01.VarintLonger', WHERE WHAT IT READS IS OF BULK AT MOST 1048576: true; the input reads as it did. -/
def varintLongerUptoRow : OpenClaim := { program := "ytbalffclojdmhaa", sum := "678be62bb7fb43a012095be335ff80d39cf06a909b0da023fbd95c5fe4a93151", func := "wireschema/wireschemalaw01.VarintLonger", spec := "varintLonger", apart := false, narrowed := true }
def VarintLongerUptoSaid : Prop := varintLongerUptoRow.holds Try.pinned (OpenSpec.upto varintLongerSpec)

/-- 'wireschemalaw01.VarintRoundTrips', WHERE WHAT IT READS IS OF BULK AT MOST 1048576: true; the input reads as it did. -/
def varintRoundTripsUptoRow : OpenClaim := { program := "ytbalffclojdmhaa", sum := "678be62bb7fb43a012095be335ff80d39cf06a909b0da023fbd95c5fe4a93151", func := "wireschema/wireschemalaw01.VarintRoundTrips", spec := "varintRoundTrips", apart := false, narrowed := true }
def VarintRoundTripsUptoSaid : Prop := varintRoundTripsUptoRow.holds Try.pinned (OpenSpec.upto varintRoundTripsSpec)

end Rows
end Go.Proofs.Ytbalffclojdmhaa
