/-
  DERIVED. GIVEN WITH THE SEED: THE CARDS: each row of YtaiflhahcglpgaaGreatDoorRows.lean that lists a variable, with what it lists TIED to the program's text (the seventh form; the later family's looks); each row that meets fmt, with fmt's text TOLD by the authors' own Lean function (tested against real Go, not proved from fmt's source: count such statements apart). THE CARD IS WHAT COUNTS. Prove the row's statement (the work); the ties are given (YtaiflhahcglpgaaGreatDoorTie.lean); close each card by the builder's one call (the guide's Derived/Test/ToyasCard.lean, 'card_holds'). Laid BY PROGRAM, IN A SANDBOX (cutbox-door.mjs). By AI agents, Wed Nov 11 2026. No macro, syntax, notation, axiom, sorry.
-/
import Derived.Test.YtaiflhahcglpgaaGreatDoorRows
import GoSem.ClaimSeven
namespace Go.Proofs.YtaiflhahcglpgaaGreatDoor
namespace Rows

/-- THE TIED CARD OF 'wireschemalaw22.PlanMakes'. -/
def planMakesCard : Claim7 := { stood := { row := planMakesRow, standIns := [], harness := (true, "6054435d0a05f690a59e695e0b72f8c0b3c055a4f73e55d070ba753bbea1cb2d"), looks := true }, kinds := [], alts := [], laidByText := true, laidKinds := [.data, .pinned], laidTests := true, laidLooks := .later }
def PlanMakesCardSaid : Prop := Claim7.holds Tryz.pinned (.plain (OpenSpec.ofChange planMakesSpec)) planMakesCard

/-- THE TIED CARD OF 'wireschemalaw22.PlanComplete'. -/
def planCompleteCard : Claim7 := { stood := { row := planCompleteRow, standIns := [], harness := (true, "6054435d0a05f690a59e695e0b72f8c0b3c055a4f73e55d070ba753bbea1cb2d"), looks := true }, kinds := [], alts := [], laidByText := true, laidKinds := [.data, .pinned], laidTests := true, laidLooks := .later }
def PlanCompleteCardSaid : Prop := Claim7.holds Tryz.pinned (.plain (OpenSpec.ofChange planCompleteSpec)) planCompleteCard

/-- THE SECOND FORM's CARD OF 'wireschemalaw22.PlanMakes'. -/
def planMakesUptoCard : Claim7 := { stood := { row := planMakesUptoRow, standIns := [], harness := (true, "6054435d0a05f690a59e695e0b72f8c0b3c055a4f73e55d070ba753bbea1cb2d"), looks := true }, kinds := [], alts := [], laidByText := true, laidKinds := [.data, .pinned], laidTests := true, laidLooks := .later }
def PlanMakesUptoCardSaid : Prop := Claim7.holds Tryz.pinned (.plain (OpenSpec.upto planMakesSpec)) planMakesUptoCard

/-- THE SECOND FORM's CARD OF 'wireschemalaw22.PlanComplete'. -/
def planCompleteUptoCard : Claim7 := { stood := { row := planCompleteUptoRow, standIns := [], harness := (true, "6054435d0a05f690a59e695e0b72f8c0b3c055a4f73e55d070ba753bbea1cb2d"), looks := true }, kinds := [], alts := [], laidByText := true, laidKinds := [.data, .pinned], laidTests := true, laidLooks := .later }
def PlanCompleteUptoCardSaid : Prop := Claim7.holds Tryz.pinned (.plain (OpenSpec.upto planCompleteSpec)) planCompleteUptoCard
end Rows
end Go.Proofs.YtaiflhahcglpgaaGreatDoor
