/-
  DERIVED. GIVEN WITH THE SEED: THE CARDS: each row of YtkhpgmeokilhaaaGreatDoorRows.lean that lists a variable, with what it lists TIED to the program's text (the seventh form; the later family's looks); each row that meets fmt, with fmt's text TOLD by the authors' own Lean function (tested against real Go, not proved from fmt's source: count such statements apart). THE CARD IS WHAT COUNTS. Prove the row's statement (the work); the ties are given (YtkhpgmeokilhaaaGreatDoorTie.lean); close each card by the builder's one call (the guide's Derived/Test/ToyasCard.lean, 'card_holds'). Laid BY PROGRAM, IN A SANDBOX (cutbox-door.mjs). By AI agents, Wed Nov 11 2026. No macro, syntax, notation, axiom, sorry.
-/
import Derived.Test.YtkhpgmeokilhaaaGreatDoorRows
import GoSem.ClaimSeven
namespace Go.Proofs.YtkhpgmeokilhaaaGreatDoor
namespace Rows

/-- THE TIED CARD OF 'wireschemalaw30.LensDecodes'. -/
def lensDecodesCard : Claim7 := { stood := { row := lensDecodesRow, standIns := [], harness := (true, "d1b6a9191c997af0d3e9f4651837c401e1edc09849dca461f7cb11193f9ab92d"), looks := true }, kinds := [], alts := [], laidByText := true, laidKinds := [.data, .data, .data, .pinned], laidTests := true, laidLooks := .later }
def LensDecodesCardSaid : Prop := Claim7.holds Tryz.pinned (.plain (OpenSpec.ofChange lensDecodesSpec)) lensDecodesCard

/-- THE SECOND FORM's CARD OF 'wireschemalaw30.LensDecodes'. -/
def lensDecodesUptoCard : Claim7 := { stood := { row := lensDecodesUptoRow, standIns := [], harness := (true, "d1b6a9191c997af0d3e9f4651837c401e1edc09849dca461f7cb11193f9ab92d"), looks := true }, kinds := [], alts := [], laidByText := true, laidKinds := [.data, .data, .data, .pinned], laidTests := true, laidLooks := .later }
def LensDecodesUptoCardSaid : Prop := Claim7.holds Tryz.pinned (.plain (OpenSpec.upto lensDecodesSpec)) lensDecodesUptoCard
end Rows
end Go.Proofs.YtkhpgmeokilhaaaGreatDoor
