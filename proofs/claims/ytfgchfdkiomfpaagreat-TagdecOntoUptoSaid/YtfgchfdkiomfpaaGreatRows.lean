/-
  NARROWER THAN 'FOR EVERY INPUT', by the rows' own cells (each row's printed sentence says how): TagdecReads: loops · TagdecOnto: loops.
  DERIVED. THE GIVEN ROWS OF THIS SEAT. 2 by the template 'for every input the law returns true; each argument reads behind the call as it read before'; 0 by the template 'total and deterministic' (their statements: YtfgchfdkiomfpaaGreatTotals.lean).
  GIVEN WITH THE SEED: the statements are not yours to turn. If you find one false, say at which input.
  Laid BY PROGRAM, IN A SANDBOX (cutbox-rows.mjs): the forced cells as the released guide's own fill.sh prints them over the translation 7c20aac9f70adc06… (all of the seat's roots in one cut). By AI agents, Wed Nov 11 2026. No macro, syntax, notation, axiom, sorry.
-/
import Derived.Test.YtfgchfdkiomfpaaGreatChecked
import GoSem.Claim
import GoSem.ClaimJoined
import GoSem.ClaimMapViews
import Derived.JoinedTies
import Derived.KernelRfl
namespace Go.Proofs.YtfgchfdkiomfpaaGreat
/- THE CELL 'sum', in the pinned program and in every row, IS THE sha256 OF THE DUMP (.gsa) THAT YtfgchfdkiomfpaaGreatProg.lean LOADS. Nothing in Lean hashes anything: it is a label: what it is worth is what the hold of that sum in a sandbox is worth. -/
noncomputable def Tryz.pinned : Pinned := { name := "ytfgchfdkiomfpaagreat", sum := "7c20aac9f70adc0689d72644282e10c19dfef1968001a7ddd8a06314356df77c", checked := Tryz.checked }
namespace Rows
def none {H : Type} : Left H := { results := [], args := [] }

/-- 'wireschemalaw25.TagdecReads': WHATEVER THE INPUT: true; the input reads as it did. -/
def tagdecReadsSpec : ChangeSpec := { name := "tagdecReads", fn := fun _ => fun
  | [d1, d2, d3, d4] => { results := [.lit (.bool true)], args := [d1, d2, d3, d4] }
  | _ => none }
def tagdecReadsRow : OpenClaim := { program := "ytfgchfdkiomfpaagreat", sum := "7c20aac9f70adc0689d72644282e10c19dfef1968001a7ddd8a06314356df77c", func := "wireschema/wireschemalaw25.TagdecReads", spec := "tagdecReads", unfollowed := true, recurses := true, loops := true, apart := false }
def TagdecReadsSaid : Prop := tagdecReadsRow.holds Tryz.pinned (OpenSpec.ofChange tagdecReadsSpec)

/-- ITS FALSE NEIGHBOUR: 'it returns false'. Refute it at one input. -/
def tagdecReadsWrong : ChangeSpec := { name := "tagdecReads", fn := fun _ => fun
  | [d1, d2, d3, d4] => { results := [.lit (.bool false)], args := [d1, d2, d3, d4] }
  | _ => none }
def TagdecReadsWrongFalsely : Prop := tagdecReadsRow.holds Tryz.pinned (OpenSpec.ofChange tagdecReadsWrong)

/-- 'wireschemalaw25.TagdecOnto': WHATEVER THE INPUT: true; the input reads as it did. -/
def tagdecOntoSpec : ChangeSpec := { name := "tagdecOnto", fn := fun _ => fun
  | [d1, d2, d3, d4] => { results := [.lit (.bool true)], args := [d1, d2, d3, d4] }
  | _ => none }
def tagdecOntoRow : OpenClaim := { program := "ytfgchfdkiomfpaagreat", sum := "7c20aac9f70adc0689d72644282e10c19dfef1968001a7ddd8a06314356df77c", func := "wireschema/wireschemalaw25.TagdecOnto", spec := "tagdecOnto", unfollowed := true, recurses := true, loops := true, apart := false }
def TagdecOntoSaid : Prop := tagdecOntoRow.holds Tryz.pinned (OpenSpec.ofChange tagdecOntoSpec)

/-- ITS FALSE NEIGHBOUR: 'it returns false'. Refute it at one input. -/
def tagdecOntoWrong : ChangeSpec := { name := "tagdecOnto", fn := fun _ => fun
  | [d1, d2, d3, d4] => { results := [.lit (.bool false)], args := [d1, d2, d3, d4] }
  | _ => none }
def TagdecOntoWrongFalsely : Prop := tagdecOntoRow.holds Tryz.pinned (OpenSpec.ofChange tagdecOntoWrong)

/- THE SECOND FORM. 'bulk': how many values and letters a reading holds, each counted each time it is reached (what is shared counts as often as it is met; a slice's spare places count too). A statement '..UptoSaid' is the law's where the arguments, and the package variables that the reading takes, are together of bulk at most 1048576: NARROWER than '..Said'. Prove '..Said' where nothing that the law and all that it calls make is longer than what came in: it says more and counts as full. Else prove '..UptoSaid'. A law counts once. -/
mutual
def uptoBulk {H : Type} : DataW H → Nat
  | .lit (.string bytes) => bytes.length + 1
  | .lit _ => 1
  | .nil => 1
  | .ptr d => uptoBulk d + 1
  | .slice elems spare => uptoBulkAll elems + uptoBulkAll spare + 1
  | .agg parts => uptoBulkAll parts + 1
  | .iface _ d => uptoBulk d + 1
  | .map entries => uptoBulkEntries entries + 1
  | .held _ => 1
def uptoBulkAll {H : Type} : List (DataW H) → Nat
  | [] => 0
  | d :: r => uptoBulk d + uptoBulkAll r
def uptoBulkEntries {H : Type} : List (Lit × DataW H) → Nat
  | [] => 0
  | x :: r => uptoBulkEntry x + uptoBulkEntries r
def uptoBulkEntry {H : Type} : Lit × DataW H → Nat
  | (.string bytes, d) => bytes.length + uptoBulk d + 1
  | (_, d) => uptoBulk d + 1
 end
def uptoSmall : (H : Type) → List (DataW H) → Bool := fun _ ds => decide (uptoBulkAll ds ≤ 1048576)
def OpenSpec.upto (s : _root_.Go.ChangeSpec) : _root_.Go.OpenSpec := { _root_.Go.OpenSpec.ofChange s with cond := some uptoSmall }

/-- 'wireschemalaw25.TagdecReads', WHERE WHAT IT READS IS OF BULK AT MOST 1048576: true; the input reads as it did. -/
def tagdecReadsUptoRow : OpenClaim := { program := "ytfgchfdkiomfpaagreat", sum := "7c20aac9f70adc0689d72644282e10c19dfef1968001a7ddd8a06314356df77c", func := "wireschema/wireschemalaw25.TagdecReads", spec := "tagdecReads", unfollowed := true, recurses := true, loops := true, apart := false, narrowed := true }
def TagdecReadsUptoSaid : Prop := tagdecReadsUptoRow.holds Tryz.pinned (OpenSpec.upto tagdecReadsSpec)

/-- 'wireschemalaw25.TagdecOnto', WHERE WHAT IT READS IS OF BULK AT MOST 1048576: true; the input reads as it did. -/
def tagdecOntoUptoRow : OpenClaim := { program := "ytfgchfdkiomfpaagreat", sum := "7c20aac9f70adc0689d72644282e10c19dfef1968001a7ddd8a06314356df77c", func := "wireschema/wireschemalaw25.TagdecOnto", spec := "tagdecOnto", unfollowed := true, recurses := true, loops := true, apart := false, narrowed := true }
def TagdecOntoUptoSaid : Prop := tagdecOntoUptoRow.holds Tryz.pinned (OpenSpec.upto tagdecOntoSpec)

end Rows
end Go.Proofs.YtfgchfdkiomfpaaGreat
