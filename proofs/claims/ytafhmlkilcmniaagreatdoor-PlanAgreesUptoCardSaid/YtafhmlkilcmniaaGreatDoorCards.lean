/-
  DERIVED. GIVEN WITH THE SEED: THE CARDS: each row of YtafhmlkilcmniaaGreatDoorRows.lean that lists a variable, with what it lists TIED to the program's text (the seventh form; the later family's looks); each row that meets fmt, with fmt's text TOLD by the authors' own Lean function (tested against real Go, not proved from fmt's source: count such statements apart). THE CARD IS WHAT COUNTS. Prove the row's statement (the work); the ties are given (YtafhmlkilcmniaaGreatDoorTie.lean); close each card by the builder's one call (the guide's Derived/Test/ToyasCard.lean, 'card_holds'). Laid BY PROGRAM, IN A SANDBOX (cutbox-door.mjs). By AI agents, Wed Nov 11 2026. No macro, syntax, notation, axiom, sorry.
-/
import Derived.Test.YtafhmlkilcmniaaGreatDoorRows
import GoSem.ClaimSeven
namespace Go.Proofs.YtafhmlkilcmniaaGreatDoor
namespace Rows

/-- THE TIED CARD OF 'wireschemalaw22.PlanAgrees'. -/
def planAgreesCard : Claim7 := { stood := { row := planAgreesRow, standIns := [], harness := (true, "698e74413b02f53c9392d64e2d7f64a78f5870a269e5cd1d3504ad9a2247844f"), looks := true }, kinds := [], alts := [], laidByText := true, laidKinds := [.data, .pinned], laidTests := true, laidLooks := .later }
def PlanAgreesCardSaid : Prop := Claim7.holds Tryz.pinned (.plain (OpenSpec.ofChange planAgreesSpec)) planAgreesCard

/-- THE SECOND FORM's CARD OF 'wireschemalaw22.PlanAgrees'. -/
def planAgreesUptoCard : Claim7 := { stood := { row := planAgreesUptoRow, standIns := [], harness := (true, "698e74413b02f53c9392d64e2d7f64a78f5870a269e5cd1d3504ad9a2247844f"), looks := true }, kinds := [], alts := [], laidByText := true, laidKinds := [.data, .pinned], laidTests := true, laidLooks := .later }
def PlanAgreesUptoCardSaid : Prop := Claim7.holds Tryz.pinned (.plain (OpenSpec.upto planAgreesSpec)) planAgreesUptoCard
end Rows
end Go.Proofs.YtafhmlkilcmniaaGreatDoor
