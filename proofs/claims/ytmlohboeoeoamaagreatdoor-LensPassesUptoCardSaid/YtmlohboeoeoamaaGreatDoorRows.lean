/-
  NARROWER THAN 'FOR EVERY INPUT', by the rows' own cells (each row's printed sentence says how): LensPasses: loops, laid · LensKeeps: loops, laid.
  DERIVED. THE GIVEN ROWS OF THIS SEAT. 2 by the template 'for every input the law returns true; each argument reads behind the call as it read before'; 0 by the template 'total and deterministic' (their statements: YtmlohboeoeoamaaGreatDoorTotals.lean).
  GIVEN WITH THE SEED: the statements are not yours to turn. If you find one false, say at which input.
  Laid BY PROGRAM, IN A SANDBOX (cutbox-rows.mjs): the forced cells as the released guide's own fill.sh prints them over the translation b10fcc2b4d27667b… (all of the seat's roots in one cut). By AI agents, Wed Nov 11 2026. No macro, syntax, notation, axiom, sorry.
-/
import Derived.Test.YtmlohboeoeoamaaGreatDoorChecked
import GoSem.PinnedTables
import GoSem.Claim
import GoSem.ClaimJoined
import GoSem.ClaimMapViews
import Derived.JoinedTies
import Derived.KernelRfl
namespace Go.Proofs.YtmlohboeoeoamaaGreatDoor
/- THE CELL 'sum', in the pinned program and in every row, IS THE sha256 OF THE DUMP (.gsa) THAT YtmlohboeoeoamaaGreatDoorProg.lean LOADS. Nothing in Lean hashes anything: it is a label: what it is worth is what the hold of that sum in a sandbox is worth. -/
noncomputable def Tryz.pinned : Pinned := { name := "ytmlohboeoeoamaagreatdoor", sum := "b10fcc2b4d27667b7a6de723744a6e454ba84656c597bd26ca033a532a57b385", checked := Tryz.checked }
namespace Rows
def none {H : Type} : Left H := { results := [], args := [] }

/- WHAT THE LISTED PACKAGE-LEVEL VARIABLES READ AS WHEN THE CALL BEGINS. Each datum BY PROGRAM (the guide's laid-datum.mjs) off the statement by which the dump's own 'gosem.cut.vars' lays the variable. In a bare row this is a premise. The card (YtmlohboeoeoamaaGreatDoorCards.lean) ties it to the program's text. -/
def laid_unicode_utf8_acceptRanges {H : Type} : DataW H := .agg [.agg [.lit (.int .u8 128), .lit (.int .u8 191)], .agg [.lit (.int .u8 160), .lit (.int .u8 191)], .agg [.lit (.int .u8 128), .lit (.int .u8 159)], .agg [.lit (.int .u8 144), .lit (.int .u8 191)], .agg [.lit (.int .u8 128), .lit (.int .u8 143)], .agg [.lit (.int .u8 0), .lit (.int .u8 0)], .agg [.lit (.int .u8 0), .lit (.int .u8 0)], .agg [.lit (.int .u8 0), .lit (.int .u8 0)], .agg [.lit (.int .u8 0), .lit (.int .u8 0)], .agg [.lit (.int .u8 0), .lit (.int .u8 0)], .agg [.lit (.int .u8 0), .lit (.int .u8 0)], .agg [.lit (.int .u8 0), .lit (.int .u8 0)], .agg [.lit (.int .u8 0), .lit (.int .u8 0)], .agg [.lit (.int .u8 0), .lit (.int .u8 0)], .agg [.lit (.int .u8 0), .lit (.int .u8 0)], .agg [.lit (.int .u8 0), .lit (.int .u8 0)]]
def laid_wireschema_promote_families {H : Type} : DataW H := .agg [.agg [.lit (.int .i64 1), .lit (.int .i64 2), .lit (.int .i64 2), .lit (.int .i64 1), .lit (.int .i64 1), .lit (.int .i64 6), .lit (.int .i64 7), .lit (.int .i64 7), .lit (.int .i64 1)], .agg [.lit (.int .i64 1), .lit (.int .i64 2), .lit (.int .i64 2), .lit (.int .i64 2), .lit (.int .i64 2), .lit (.int .i64 6), .lit (.int .i64 7), .lit (.int .i64 7), .lit (.int .i64 2)], .agg [.lit (.int .i64 1), .lit (.int .i64 2), .lit (.int .i64 2), .lit (.int .i64 2), .lit (.int .i64 2), .lit (.int .i64 6), .lit (.int .i64 7), .lit (.int .i64 8), .lit (.int .i64 9)]]
def laid_wireschema_promote_bounds {H : Type} : DataW H := .agg [.agg [.lit (.int .u64 0), .lit (.int .u64 1)], .agg [.lit (.int .u64 2147483648), .lit (.int .u64 2147483647)], .agg [.lit (.int .u64 9223372036854775808), .lit (.int .u64 9223372036854775807)], .agg [.lit (.int .u64 0), .lit (.int .u64 4294967295)], .agg [.lit (.int .u64 0), .lit (.int .u64 18446744073709551615)], .agg [.lit (.int .u64 0), .lit (.int .u64 0)], .agg [.lit (.int .u64 0), .lit (.int .u64 0)], .agg [.lit (.int .u64 0), .lit (.int .u64 0)], .agg [.lit (.int .u64 0), .lit (.int .u64 2147483647)]]
/-- One of Go's own tables, pinned by name: the form's constant. -/
def laid_unicode_utf8_first : DataW Unit := Go.Pinned.utf8First

/-- 'wireschemalaw30.LensPasses': WHATEVER THE INPUT: true; the input reads as it did. -/
def lensPassesSpec : ChangeSpec := { name := "lensPasses", fn := fun _ => fun
  | [d1, d2, d3, d4] => { results := [.lit (.bool true)], args := [d1, d2, d3, d4] }
  | _ => none }
def lensPassesRow : OpenClaim := { program := "ytmlohboeoeoamaagreatdoor", sum := "b10fcc2b4d27667b7a6de723744a6e454ba84656c597bd26ca033a532a57b385", func := "wireschema/wireschemalaw30.LensPasses", spec := "lensPasses", inPlace := ["internal/bytealg.CountString", "internal/bytealg.IndexByteString", "internal/bytealg.IndexString", "internal/abi.NoEscape"], unfollowed := true, recurses := true, named := ["unicode/utf8.first", "unicode/utf8.acceptRanges", "internal/bytealg.MaxLen", "wireschema/promote.families", "wireschema/promote.bounds"], loops := true, apart := false, laid := [("unicode/utf8.acceptRanges", laid_unicode_utf8_acceptRanges), ("wireschema/promote.families", laid_wireschema_promote_families), ("wireschema/promote.bounds", laid_wireschema_promote_bounds), ("unicode/utf8.first", laid_unicode_utf8_first)] }
def LensPassesSaid : Prop := lensPassesRow.holds Tryz.pinned (OpenSpec.ofChange lensPassesSpec)

/-- ITS FALSE NEIGHBOUR: 'it returns false'. Refute it at one input. -/
def lensPassesWrong : ChangeSpec := { name := "lensPasses", fn := fun _ => fun
  | [d1, d2, d3, d4] => { results := [.lit (.bool false)], args := [d1, d2, d3, d4] }
  | _ => none }
def LensPassesWrongFalsely : Prop := lensPassesRow.holds Tryz.pinned (OpenSpec.ofChange lensPassesWrong)

/-- 'wireschemalaw30.LensKeeps': WHATEVER THE INPUT: true; the input reads as it did. -/
def lensKeepsSpec : ChangeSpec := { name := "lensKeeps", fn := fun _ => fun
  | [d1, d2, d3, d4] => { results := [.lit (.bool true)], args := [d1, d2, d3, d4] }
  | _ => none }
def lensKeepsRow : OpenClaim := { program := "ytmlohboeoeoamaagreatdoor", sum := "b10fcc2b4d27667b7a6de723744a6e454ba84656c597bd26ca033a532a57b385", func := "wireschema/wireschemalaw30.LensKeeps", spec := "lensKeeps", inPlace := ["internal/bytealg.CountString", "internal/bytealg.IndexByteString", "internal/bytealg.IndexString", "internal/abi.NoEscape"], unfollowed := true, recurses := true, named := ["unicode/utf8.first", "unicode/utf8.acceptRanges", "internal/bytealg.MaxLen", "wireschema/promote.families", "wireschema/promote.bounds"], loops := true, apart := false, laid := [("unicode/utf8.acceptRanges", laid_unicode_utf8_acceptRanges), ("wireschema/promote.families", laid_wireschema_promote_families), ("wireschema/promote.bounds", laid_wireschema_promote_bounds), ("unicode/utf8.first", laid_unicode_utf8_first)] }
def LensKeepsSaid : Prop := lensKeepsRow.holds Tryz.pinned (OpenSpec.ofChange lensKeepsSpec)

/-- ITS FALSE NEIGHBOUR: 'it returns false'. Refute it at one input. -/
def lensKeepsWrong : ChangeSpec := { name := "lensKeeps", fn := fun _ => fun
  | [d1, d2, d3, d4] => { results := [.lit (.bool false)], args := [d1, d2, d3, d4] }
  | _ => none }
def LensKeepsWrongFalsely : Prop := lensKeepsRow.holds Tryz.pinned (OpenSpec.ofChange lensKeepsWrong)

/- THE SECOND FORM. 'bulk': how many values and letters a reading holds, each counted each time it is reached (what is shared counts as often as it is met; a slice's spare places count too). A statement '..UptoSaid' is the law's where the arguments, and the package variables that the reading takes, are together of bulk at most 1048576: NARROWER than '..Said'. Prove '..Said' where nothing that the law and all that it calls make is longer than what came in: it says more and counts as full. Else prove '..UptoSaid'. A law counts once. -/
mutual
def uptoBulk {H : Type} : DataW H → Nat
  | .lit (.string bytes) => bytes.length + 1
  | .lit _ => 1
  | .nil => 1
  | .ptr d => uptoBulk d + 1
  | .slice elems spare => uptoBulkAll elems + uptoBulkAll spare + 1
  | .agg parts => uptoBulkAll parts + 1
  | .iface _ d => uptoBulk d + 1
  | .map entries => uptoBulkEntries entries + 1
  | .held _ => 1
def uptoBulkAll {H : Type} : List (DataW H) → Nat
  | [] => 0
  | d :: r => uptoBulk d + uptoBulkAll r
def uptoBulkEntries {H : Type} : List (Lit × DataW H) → Nat
  | [] => 0
  | x :: r => uptoBulkEntry x + uptoBulkEntries r
def uptoBulkEntry {H : Type} : Lit × DataW H → Nat
  | (.string bytes, d) => bytes.length + uptoBulk d + 1
  | (_, d) => uptoBulk d + 1
 end
def uptoSmall : (H : Type) → List (DataW H) → Bool := fun _ ds => decide (uptoBulkAll ds ≤ 1048576)
def OpenSpec.upto (s : _root_.Go.ChangeSpec) : _root_.Go.OpenSpec := { _root_.Go.OpenSpec.ofChange s with cond := some uptoSmall }

/-- 'wireschemalaw30.LensPasses', WHERE WHAT IT READS IS OF BULK AT MOST 1048576: true; the input reads as it did. -/
def lensPassesUptoRow : OpenClaim := { program := "ytmlohboeoeoamaagreatdoor", sum := "b10fcc2b4d27667b7a6de723744a6e454ba84656c597bd26ca033a532a57b385", func := "wireschema/wireschemalaw30.LensPasses", spec := "lensPasses", inPlace := ["internal/bytealg.CountString", "internal/bytealg.IndexByteString", "internal/bytealg.IndexString", "internal/abi.NoEscape"], unfollowed := true, recurses := true, named := ["unicode/utf8.first", "unicode/utf8.acceptRanges", "internal/bytealg.MaxLen", "wireschema/promote.families", "wireschema/promote.bounds"], loops := true, apart := false, laid := [("unicode/utf8.acceptRanges", laid_unicode_utf8_acceptRanges), ("wireschema/promote.families", laid_wireschema_promote_families), ("wireschema/promote.bounds", laid_wireschema_promote_bounds), ("unicode/utf8.first", laid_unicode_utf8_first)], narrowed := true }
def LensPassesUptoSaid : Prop := lensPassesUptoRow.holds Tryz.pinned (OpenSpec.upto lensPassesSpec)

/-- 'wireschemalaw30.LensKeeps', WHERE WHAT IT READS IS OF BULK AT MOST 1048576: true; the input reads as it did. -/
def lensKeepsUptoRow : OpenClaim := { program := "ytmlohboeoeoamaagreatdoor", sum := "b10fcc2b4d27667b7a6de723744a6e454ba84656c597bd26ca033a532a57b385", func := "wireschema/wireschemalaw30.LensKeeps", spec := "lensKeeps", inPlace := ["internal/bytealg.CountString", "internal/bytealg.IndexByteString", "internal/bytealg.IndexString", "internal/abi.NoEscape"], unfollowed := true, recurses := true, named := ["unicode/utf8.first", "unicode/utf8.acceptRanges", "internal/bytealg.MaxLen", "wireschema/promote.families", "wireschema/promote.bounds"], loops := true, apart := false, laid := [("unicode/utf8.acceptRanges", laid_unicode_utf8_acceptRanges), ("wireschema/promote.families", laid_wireschema_promote_families), ("wireschema/promote.bounds", laid_wireschema_promote_bounds), ("unicode/utf8.first", laid_unicode_utf8_first)], narrowed := true }
def LensKeepsUptoSaid : Prop := lensKeepsUptoRow.holds Tryz.pinned (OpenSpec.upto lensKeepsSpec)

end Rows
end Go.Proofs.YtmlohboeoeoamaaGreatDoor
