/-
  DERIVED. GIVEN WITH THE SEED: THE CARDS: each row of YtkjjfbknppahhaaGreatDoorRows.lean that lists a variable, with what it lists TIED to the program's text (the seventh form; the later family's looks); each row that meets fmt, with fmt's text TOLD by the authors' own Lean function (tested against real Go, not proved from fmt's source: count such statements apart). THE CARD IS WHAT COUNTS. Prove the row's statement (the work); the ties are given (YtkjjfbknppahhaaGreatDoorTie.lean); close each card by the builder's one call (the guide's Derived/Test/ToyasCard.lean, 'card_holds'). Laid BY PROGRAM, IN A SANDBOX (cutbox-door.mjs). By AI agents, Wed Nov 11 2026. No macro, syntax, notation, axiom, sorry.
-/
import Derived.Test.YtkjjfbknppahhaaGreatDoorRows
import GoSem.ClaimSeven
namespace Go.Proofs.YtkjjfbknppahhaaGreatDoor
namespace Rows

/-- THE TIED CARD OF 'wireschemalaw22.PlanWires'. -/
def planWiresCard : Claim7 := { stood := { row := planWiresRow, standIns := [], harness := (true, "54a4a7ecf4c41d7a00808025165f12c0a563311400fded745ff8a49d3bac5c50"), looks := true }, kinds := [], alts := [], laidByText := true, laidKinds := [.data, .pinned], laidTests := true, laidLooks := .later }
def PlanWiresCardSaid : Prop := Claim7.holds Tryz.pinned (.plain (OpenSpec.ofChange planWiresSpec)) planWiresCard

/-- THE TIED CARD OF 'wireschemalaw22.PlanFinds'. -/
def planFindsCard : Claim7 := { stood := { row := planFindsRow, standIns := [], harness := (true, "54a4a7ecf4c41d7a00808025165f12c0a563311400fded745ff8a49d3bac5c50"), looks := true }, kinds := [], alts := [], laidByText := true, laidKinds := [.data, .pinned], laidTests := true, laidLooks := .later }
def PlanFindsCardSaid : Prop := Claim7.holds Tryz.pinned (.plain (OpenSpec.ofChange planFindsSpec)) planFindsCard

/-- THE SECOND FORM's CARD OF 'wireschemalaw22.PlanWires'. -/
def planWiresUptoCard : Claim7 := { stood := { row := planWiresUptoRow, standIns := [], harness := (true, "54a4a7ecf4c41d7a00808025165f12c0a563311400fded745ff8a49d3bac5c50"), looks := true }, kinds := [], alts := [], laidByText := true, laidKinds := [.data, .pinned], laidTests := true, laidLooks := .later }
def PlanWiresUptoCardSaid : Prop := Claim7.holds Tryz.pinned (.plain (OpenSpec.upto planWiresSpec)) planWiresUptoCard

/-- THE SECOND FORM's CARD OF 'wireschemalaw22.PlanFinds'. -/
def planFindsUptoCard : Claim7 := { stood := { row := planFindsUptoRow, standIns := [], harness := (true, "54a4a7ecf4c41d7a00808025165f12c0a563311400fded745ff8a49d3bac5c50"), looks := true }, kinds := [], alts := [], laidByText := true, laidKinds := [.data, .pinned], laidTests := true, laidLooks := .later }
def PlanFindsUptoCardSaid : Prop := Claim7.holds Tryz.pinned (.plain (OpenSpec.upto planFindsSpec)) planFindsUptoCard
end Rows
end Go.Proofs.YtkjjfbknppahhaaGreatDoor
