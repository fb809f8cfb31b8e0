/-
  DERIVED. GIVEN WITH THE SEED: THE CARDS: each row of YtalalolgdekelaaGreatDoorRows.lean that lists a variable, with what it lists TIED to the program's text (the seventh form; the later family's looks); each row that meets fmt, with fmt's text TOLD by the authors' own Lean function (tested against real Go, not proved from fmt's source: count such statements apart). THE CARD IS WHAT COUNTS. Prove the row's statement (the work); the ties are given (YtalalolgdekelaaGreatDoorTie.lean); close each card by the builder's one call (the guide's Derived/Test/ToyasCard.lean, 'card_holds'). Laid BY PROGRAM, IN A SANDBOX (cutbox-door.mjs). By AI agents, Wed Nov 11 2026. No macro, syntax, notation, axiom, sorry.
-/
import Derived.Test.YtalalolgdekelaaGreatDoorRows
import GoSem.ClaimSeven
namespace Go.Proofs.YtalalolgdekelaaGreatDoor
namespace Rows

/-- THE TIED CARD OF 'wireschemalaw24.TagencScalars'. -/
def tagencScalarsCard : Claim7 := { stood := { row := tagencScalarsRow, standIns := [], harness := (true, "cb2d5694d95f35bf7fe69493392d6c1d7b873572ac4f093071db7b81e34b8753"), looks := true }, kinds := [], alts := [], laidByText := true, laidKinds := [.data, .pinned], laidTests := true, laidLooks := .later }
def TagencScalarsCardSaid : Prop := Claim7.holds Tryz.pinned (.plain (OpenSpec.ofChange tagencScalarsSpec)) tagencScalarsCard

/-- THE SECOND FORM's CARD OF 'wireschemalaw24.TagencScalars'. -/
def tagencScalarsUptoCard : Claim7 := { stood := { row := tagencScalarsUptoRow, standIns := [], harness := (true, "cb2d5694d95f35bf7fe69493392d6c1d7b873572ac4f093071db7b81e34b8753"), looks := true }, kinds := [], alts := [], laidByText := true, laidKinds := [.data, .pinned], laidTests := true, laidLooks := .later }
def TagencScalarsUptoCardSaid : Prop := Claim7.holds Tryz.pinned (.plain (OpenSpec.upto tagencScalarsSpec)) tagencScalarsUptoCard
end Rows
end Go.Proofs.YtalalolgdekelaaGreatDoor
