/-
  DERIVED. GIVEN WITH THE SEED: THE CARDS: each row of YtgannjophilbiaaGreatDoorRows.lean that lists a variable, with what it lists TIED to the program's text (the seventh form; the later family's looks); each row that meets fmt, with fmt's text TOLD by the authors' own Lean function (tested against real Go, not proved from fmt's source: count such statements apart). THE CARD IS WHAT COUNTS. Prove the row's statement (the work); the ties are given (YtgannjophilbiaaGreatDoorTie.lean); close each card by the builder's one call (the guide's Derived/Test/ToyasCard.lean, 'card_holds'). Laid BY PROGRAM, IN A SANDBOX (cutbox-door.mjs). By AI agents, Wed Nov 11 2026. No macro, syntax, notation, axiom, sorry.
-/
import Derived.Test.YtgannjophilbiaaGreatDoorRows
import GoSem.ClaimSeven
namespace Go.Proofs.YtgannjophilbiaaGreatDoor
namespace Rows

/-- THE TIED CARD OF 'wireschemalaw22.PlanNorms'. -/
def planNormsCard : Claim7 := { stood := { row := planNormsRow, standIns := [], harness := (true, "49d2ef3d8f50d89eca546f48e4422711330890cd25b4d0fcf7f96daf558c03cf"), looks := true }, kinds := [], alts := [], laidByText := true, laidKinds := [.data, .pinned], laidTests := true, laidLooks := .later }
def PlanNormsCardSaid : Prop := Claim7.holds Tryz.pinned (.plain (OpenSpec.ofChange planNormsSpec)) planNormsCard

/-- THE SECOND FORM's CARD OF 'wireschemalaw22.PlanNorms'. -/
def planNormsUptoCard : Claim7 := { stood := { row := planNormsUptoRow, standIns := [], harness := (true, "49d2ef3d8f50d89eca546f48e4422711330890cd25b4d0fcf7f96daf558c03cf"), looks := true }, kinds := [], alts := [], laidByText := true, laidKinds := [.data, .pinned], laidTests := true, laidLooks := .later }
def PlanNormsUptoCardSaid : Prop := Claim7.holds Tryz.pinned (.plain (OpenSpec.upto planNormsSpec)) planNormsUptoCard
end Rows
end Go.Proofs.YtgannjophilbiaaGreatDoor
