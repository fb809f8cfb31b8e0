/-
  DERIVED. GIVEN WITH THE SEED: THE CARDS: each row of YtnpajgoobomndaaGreatDoorRows.lean that lists a variable, with what it lists TIED to the program's text (the seventh form; the later family's looks); each row that meets fmt, with fmt's text TOLD by the authors' own Lean function (tested against real Go, not proved from fmt's source: count such statements apart). THE CARD IS WHAT COUNTS. Prove the row's statement (the work); the ties are given (YtnpajgoobomndaaGreatDoorTie.lean); close each card by the builder's one call (the guide's Derived/Test/ToyasCard.lean, 'card_holds'). Laid BY PROGRAM, IN A SANDBOX (cutbox-door.mjs). By AI agents, Wed Nov 11 2026. No macro, syntax, notation, axiom, sorry.
-/
import Derived.Test.YtnpajgoobomndaaGreatDoorRows
import GoSem.ClaimSeven
namespace Go.Proofs.YtnpajgoobomndaaGreatDoor
namespace Rows

/-- THE TIED CARD OF 'wireschemalaw37.VerdictOwn'. -/
def verdictOwnCard : Claim7 := { stood := { row := verdictOwnRow, standIns := [], harness := (true, "9313c5f77af1ae3c6bd5a84c81219044eb8006f0fc9928ed23d1def211ff135a"), looks := false }, kinds := [], alts := [], laidByText := true, laidKinds := [.data, .data, .data, .pinned], laidTests := true, laidLooks := .later }
def VerdictOwnCardSaid : Prop := Claim7.holds Tryz.pinned (.plain (OpenSpec.ofChange verdictOwnSpec)) verdictOwnCard

/-- THE SECOND FORM's CARD OF 'wireschemalaw37.VerdictOwn'. -/
def verdictOwnUptoCard : Claim7 := { stood := { row := verdictOwnUptoRow, standIns := [], harness := (true, "9313c5f77af1ae3c6bd5a84c81219044eb8006f0fc9928ed23d1def211ff135a"), looks := false }, kinds := [], alts := [], laidByText := true, laidKinds := [.data, .data, .data, .pinned], laidTests := true, laidLooks := .later }
def VerdictOwnUptoCardSaid : Prop := Claim7.holds Tryz.pinned (.plain (OpenSpec.upto verdictOwnSpec)) verdictOwnUptoCard
end Rows
end Go.Proofs.YtnpajgoobomndaaGreatDoor
