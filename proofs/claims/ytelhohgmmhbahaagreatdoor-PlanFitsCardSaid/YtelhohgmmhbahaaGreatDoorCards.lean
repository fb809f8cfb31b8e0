/-
  DERIVED. GIVEN WITH THE SEED: THE CARDS: each row of YtelhohgmmhbahaaGreatDoorRows.lean that lists a variable, with what it lists TIED to the program's text (the seventh form; the later family's looks); each row that meets fmt, with fmt's text TOLD by the authors' own Lean function (tested against real Go, not proved from fmt's source: count such statements apart). THE CARD IS WHAT COUNTS. Prove the row's statement (the work); the ties are given (YtelhohgmmhbahaaGreatDoorTie.lean); close each card by the builder's one call (the guide's Derived/Test/ToyasCard.lean, 'card_holds'). Laid BY PROGRAM, IN A SANDBOX (cutbox-door.mjs). By AI agents, Wed Nov 11 2026. No macro, syntax, notation, axiom, sorry.
-/
import Derived.Test.YtelhohgmmhbahaaGreatDoorRows
import GoSem.ClaimSeven
namespace Go.Proofs.YtelhohgmmhbahaaGreatDoor
namespace Rows

/-- THE TIED CARD OF 'wireschemalaw22.PlanFits'. -/
def planFitsCard : Claim7 := { stood := { row := planFitsRow, standIns := [], harness := (true, "7348205231e5f47a2a3ab0806bc5ca14f251370a7ba1d346c737cfb616b57bcc"), looks := true }, kinds := [], alts := [], laidByText := true, laidKinds := [.data, .pinned], laidTests := true, laidLooks := .later }
def PlanFitsCardSaid : Prop := Claim7.holds Tryz.pinned (.plain (OpenSpec.ofChange planFitsSpec)) planFitsCard

/-- THE TIED CARD OF 'wireschemalaw22.PlanChecks'. -/
def planChecksCard : Claim7 := { stood := { row := planChecksRow, standIns := [], harness := (true, "7348205231e5f47a2a3ab0806bc5ca14f251370a7ba1d346c737cfb616b57bcc"), looks := true }, kinds := [], alts := [], laidByText := true, laidKinds := [.data, .pinned], laidTests := true, laidLooks := .later }
def PlanChecksCardSaid : Prop := Claim7.holds Tryz.pinned (.plain (OpenSpec.ofChange planChecksSpec)) planChecksCard

/-- THE TIED CARD OF 'wireschemalaw22.PlanNorms'. -/
def planNormsCard : Claim7 := { stood := { row := planNormsRow, standIns := [], harness := (true, "7348205231e5f47a2a3ab0806bc5ca14f251370a7ba1d346c737cfb616b57bcc"), looks := true }, kinds := [], alts := [], laidByText := true, laidKinds := [.data, .pinned], laidTests := true, laidLooks := .later }
def PlanNormsCardSaid : Prop := Claim7.holds Tryz.pinned (.plain (OpenSpec.ofChange planNormsSpec)) planNormsCard

/-- THE SECOND FORM's CARD OF 'wireschemalaw22.PlanFits'. -/
def planFitsUptoCard : Claim7 := { stood := { row := planFitsUptoRow, standIns := [], harness := (true, "7348205231e5f47a2a3ab0806bc5ca14f251370a7ba1d346c737cfb616b57bcc"), looks := true }, kinds := [], alts := [], laidByText := true, laidKinds := [.data, .pinned], laidTests := true, laidLooks := .later }
def PlanFitsUptoCardSaid : Prop := Claim7.holds Tryz.pinned (.plain (OpenSpec.upto planFitsSpec)) planFitsUptoCard

/-- THE SECOND FORM's CARD OF 'wireschemalaw22.PlanChecks'. -/
def planChecksUptoCard : Claim7 := { stood := { row := planChecksUptoRow, standIns := [], harness := (true, "7348205231e5f47a2a3ab0806bc5ca14f251370a7ba1d346c737cfb616b57bcc"), looks := true }, kinds := [], alts := [], laidByText := true, laidKinds := [.data, .pinned], laidTests := true, laidLooks := .later }
def PlanChecksUptoCardSaid : Prop := Claim7.holds Tryz.pinned (.plain (OpenSpec.upto planChecksSpec)) planChecksUptoCard

/-- THE SECOND FORM's CARD OF 'wireschemalaw22.PlanNorms'. -/
def planNormsUptoCard : Claim7 := { stood := { row := planNormsUptoRow, standIns := [], harness := (true, "7348205231e5f47a2a3ab0806bc5ca14f251370a7ba1d346c737cfb616b57bcc"), looks := true }, kinds := [], alts := [], laidByText := true, laidKinds := [.data, .pinned], laidTests := true, laidLooks := .later }
def PlanNormsUptoCardSaid : Prop := Claim7.holds Tryz.pinned (.plain (OpenSpec.upto planNormsSpec)) planNormsUptoCard
end Rows
end Go.Proofs.YtelhohgmmhbahaaGreatDoor
