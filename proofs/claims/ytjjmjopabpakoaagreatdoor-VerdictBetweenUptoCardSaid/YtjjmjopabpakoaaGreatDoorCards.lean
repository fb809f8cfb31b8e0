/-
  DERIVED. GIVEN WITH THE SEED: THE CARDS: each row of YtjjmjopabpakoaaGreatDoorRows.lean that lists a variable, with what it lists TIED to the program's text (the seventh form; the later family's looks); each row that meets fmt, with fmt's text TOLD by the authors' own Lean function (tested against real Go, not proved from fmt's source: count such statements apart). THE CARD IS WHAT COUNTS. Prove the row's statement (the work); the ties are given (YtjjmjopabpakoaaGreatDoorTie.lean); close each card by the builder's one call (the guide's Derived/Test/ToyasCard.lean, 'card_holds'). Laid BY PROGRAM, IN A SANDBOX (cutbox-door.mjs). By AI agents, Wed Nov 11 2026. No macro, syntax, notation, axiom, sorry.
-/
import Derived.Test.YtjjmjopabpakoaaGreatDoorRows
import GoSem.ClaimSeven
namespace Go.Proofs.YtjjmjopabpakoaaGreatDoor
namespace Rows

/-- THE TIED CARD OF 'wireschemalaw37.VerdictFinds'. -/
def verdictFindsCard : Claim7 := { stood := { row := verdictFindsRow, standIns := [], harness := (true, "4dada33e2593c6539cfe07a40aa3a6c32e12fd9526a05d9d83d8b8a5383a9dd9"), looks := false }, kinds := [], alts := [], laidByText := true, laidKinds := [.data, .data, .data, .pinned], laidTests := true, laidLooks := .later }
def VerdictFindsCardSaid : Prop := Claim7.holds Tryz.pinned (.plain (OpenSpec.ofChange verdictFindsSpec)) verdictFindsCard

/-- THE TIED CARD OF 'wireschemalaw37.VerdictBetween'. -/
def verdictBetweenCard : Claim7 := { stood := { row := verdictBetweenRow, standIns := [], harness := (true, "4dada33e2593c6539cfe07a40aa3a6c32e12fd9526a05d9d83d8b8a5383a9dd9"), looks := false }, kinds := [], alts := [], laidByText := true, laidKinds := [.data, .data, .data, .pinned], laidTests := true, laidLooks := .later }
def VerdictBetweenCardSaid : Prop := Claim7.holds Tryz.pinned (.plain (OpenSpec.ofChange verdictBetweenSpec)) verdictBetweenCard

/-- THE SECOND FORM's CARD OF 'wireschemalaw37.VerdictFinds'. -/
def verdictFindsUptoCard : Claim7 := { stood := { row := verdictFindsUptoRow, standIns := [], harness := (true, "4dada33e2593c6539cfe07a40aa3a6c32e12fd9526a05d9d83d8b8a5383a9dd9"), looks := false }, kinds := [], alts := [], laidByText := true, laidKinds := [.data, .data, .data, .pinned], laidTests := true, laidLooks := .later }
def VerdictFindsUptoCardSaid : Prop := Claim7.holds Tryz.pinned (.plain (OpenSpec.upto verdictFindsSpec)) verdictFindsUptoCard

/-- THE SECOND FORM's CARD OF 'wireschemalaw37.VerdictBetween'. -/
def verdictBetweenUptoCard : Claim7 := { stood := { row := verdictBetweenUptoRow, standIns := [], harness := (true, "4dada33e2593c6539cfe07a40aa3a6c32e12fd9526a05d9d83d8b8a5383a9dd9"), looks := false }, kinds := [], alts := [], laidByText := true, laidKinds := [.data, .data, .data, .pinned], laidTests := true, laidLooks := .later }
def VerdictBetweenUptoCardSaid : Prop := Claim7.holds Tryz.pinned (.plain (OpenSpec.upto verdictBetweenSpec)) verdictBetweenUptoCard
end Rows
end Go.Proofs.YtjjmjopabpakoaaGreatDoor
