/-
  DERIVED. GIVEN WITH THE SEED: THE CARDS: each row of YtaobkcgjidhpkaaGreatDoorRows.lean that lists a variable, with what it lists TIED to the program's text (the seventh form; the later family's looks); each row that meets fmt, with fmt's text TOLD by the authors' own Lean function (tested against real Go, not proved from fmt's source: count such statements apart). THE CARD IS WHAT COUNTS. Prove the row's statement (the work); the ties are given (YtaobkcgjidhpkaaGreatDoorTie.lean); close each card by the builder's one call (the guide's Derived/Test/ToyasCard.lean, 'card_holds'). Laid BY PROGRAM, IN A SANDBOX (cutbox-door.mjs). By AI agents, Wed Nov 11 2026. No macro, syntax, notation, axiom, sorry.
-/
import Derived.Test.YtaobkcgjidhpkaaGreatDoorRows
import GoSem.ClaimSeven
namespace Go.Proofs.YtaobkcgjidhpkaaGreatDoor
namespace Rows

/-- THE TIED CARD OF 'wireschemalaw37.VerdictWords'. -/
def verdictWordsCard : Claim7 := { stood := { row := verdictWordsRow, standIns := [], harness := (true, "6ee85e9442651bf52309073ae966b805d23d5be76d8c0361e7386fd2b987cf28"), looks := false }, kinds := [], alts := [], laidByText := true, laidKinds := [.data, .data, .data, .data, .data, .data, .pinned], laidTests := true, laidLooks := .later }
def VerdictWordsCardSaid : Prop := Claim7.holds Tryz.pinned (.plain (OpenSpec.ofChange verdictWordsSpec)) verdictWordsCard

/-- THE SECOND FORM's CARD OF 'wireschemalaw37.VerdictWords'. -/
def verdictWordsUptoCard : Claim7 := { stood := { row := verdictWordsUptoRow, standIns := [], harness := (true, "6ee85e9442651bf52309073ae966b805d23d5be76d8c0361e7386fd2b987cf28"), looks := false }, kinds := [], alts := [], laidByText := true, laidKinds := [.data, .data, .data, .data, .data, .data, .pinned], laidTests := true, laidLooks := .later }
def VerdictWordsUptoCardSaid : Prop := Claim7.holds Tryz.pinned (.plain (OpenSpec.upto verdictWordsSpec)) verdictWordsUptoCard
end Rows
end Go.Proofs.YtaobkcgjidhpkaaGreatDoor
