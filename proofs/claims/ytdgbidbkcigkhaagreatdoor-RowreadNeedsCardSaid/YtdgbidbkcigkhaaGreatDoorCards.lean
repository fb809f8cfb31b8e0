/-
  DERIVED. GIVEN WITH THE SEED: THE CARDS: each row of YtdgbidbkcigkhaaGreatDoorRows.lean that lists a variable, with what it lists TIED to the program's text (the seventh form; the later family's looks); each row that meets fmt, with fmt's text TOLD by the authors' own Lean function (tested against real Go, not proved from fmt's source: count such statements apart). THE CARD IS WHAT COUNTS. Prove the row's statement (the work); the ties are given (YtdgbidbkcigkhaaGreatDoorTie.lean); close each card by the builder's one call (the guide's Derived/Test/ToyasCard.lean, 'card_holds'). Laid BY PROGRAM, IN A SANDBOX (cutbox-door.mjs). By AI agents, Wed Nov 11 2026. No macro, syntax, notation, axiom, sorry.
-/
import Derived.Test.YtdgbidbkcigkhaaGreatDoorRows
import GoSem.ClaimSeven
namespace Go.Proofs.YtdgbidbkcigkhaaGreatDoor
namespace Rows

/-- THE TIED CARD OF 'wireschemalaw32.RowreadNeeds'. -/
def rowreadNeedsCard : Claim7 := { stood := { row := rowreadNeedsRow, standIns := [], harness := (true, "7b49c507d73bd6bd059b7e2f26a785ac08db994fd13b2761761dc6fd95904b46"), looks := true }, kinds := [], alts := [], laidByText := true, laidKinds := [.data, .data, .data, .pinned], laidTests := true, laidLooks := .later }
def RowreadNeedsCardSaid : Prop := Claim7.holds Tryz.pinned (.plain (OpenSpec.ofChange rowreadNeedsSpec)) rowreadNeedsCard

/-- THE SECOND FORM's CARD OF 'wireschemalaw32.RowreadNeeds'. -/
def rowreadNeedsUptoCard : Claim7 := { stood := { row := rowreadNeedsUptoRow, standIns := [], harness := (true, "7b49c507d73bd6bd059b7e2f26a785ac08db994fd13b2761761dc6fd95904b46"), looks := true }, kinds := [], alts := [], laidByText := true, laidKinds := [.data, .data, .data, .pinned], laidTests := true, laidLooks := .later }
def RowreadNeedsUptoCardSaid : Prop := Claim7.holds Tryz.pinned (.plain (OpenSpec.upto rowreadNeedsSpec)) rowreadNeedsUptoCard
end Rows
end Go.Proofs.YtdgbidbkcigkhaaGreatDoor
