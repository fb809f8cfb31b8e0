/-
  DERIVED. GIVEN WITH THE SEED: THE CARDS: each row of YtmlohboeoeoamaaGreatDoorRows.lean that lists a variable, with what it lists TIED to the program's text (the seventh form; the later family's looks); each row that meets fmt, with fmt's text TOLD by the authors' own Lean function (tested against real Go, not proved from fmt's source: count such statements apart). THE CARD IS WHAT COUNTS. Prove the row's statement (the work); the ties are given (YtmlohboeoeoamaaGreatDoorTie.lean); close each card by the builder's one call (the guide's Derived/Test/ToyasCard.lean, 'card_holds'). Laid BY PROGRAM, IN A SANDBOX (cutbox-door.mjs). By AI agents, Wed Nov 11 2026. No macro, syntax, notation, axiom, sorry.
-/
import Derived.Test.YtmlohboeoeoamaaGreatDoorRows
import GoSem.ClaimSeven
namespace Go.Proofs.YtmlohboeoeoamaaGreatDoor
namespace Rows

/-- THE TIED CARD OF 'wireschemalaw30.LensPasses'. -/
def lensPassesCard : Claim7 := { stood := { row := lensPassesRow, standIns := [], harness := (true, "98ac810ac14ccf44a810654a3fcbc969cc45c37203199da77716ebdcde017afe"), looks := true }, kinds := [], alts := [], laidByText := true, laidKinds := [.data, .data, .data, .pinned], laidTests := true, laidLooks := .later }
def LensPassesCardSaid : Prop := Claim7.holds Tryz.pinned (.plain (OpenSpec.ofChange lensPassesSpec)) lensPassesCard

/-- THE TIED CARD OF 'wireschemalaw30.LensKeeps'. -/
def lensKeepsCard : Claim7 := { stood := { row := lensKeepsRow, standIns := [], harness := (true, "98ac810ac14ccf44a810654a3fcbc969cc45c37203199da77716ebdcde017afe"), looks := true }, kinds := [], alts := [], laidByText := true, laidKinds := [.data, .data, .data, .pinned], laidTests := true, laidLooks := .later }
def LensKeepsCardSaid : Prop := Claim7.holds Tryz.pinned (.plain (OpenSpec.ofChange lensKeepsSpec)) lensKeepsCard

/-- THE SECOND FORM's CARD OF 'wireschemalaw30.LensPasses'. -/
def lensPassesUptoCard : Claim7 := { stood := { row := lensPassesUptoRow, standIns := [], harness := (true, "98ac810ac14ccf44a810654a3fcbc969cc45c37203199da77716ebdcde017afe"), looks := true }, kinds := [], alts := [], laidByText := true, laidKinds := [.data, .data, .data, .pinned], laidTests := true, laidLooks := .later }
def LensPassesUptoCardSaid : Prop := Claim7.holds Tryz.pinned (.plain (OpenSpec.upto lensPassesSpec)) lensPassesUptoCard

/-- THE SECOND FORM's CARD OF 'wireschemalaw30.LensKeeps'. -/
def lensKeepsUptoCard : Claim7 := { stood := { row := lensKeepsUptoRow, standIns := [], harness := (true, "98ac810ac14ccf44a810654a3fcbc969cc45c37203199da77716ebdcde017afe"), looks := true }, kinds := [], alts := [], laidByText := true, laidKinds := [.data, .data, .data, .pinned], laidTests := true, laidLooks := .later }
def LensKeepsUptoCardSaid : Prop := Claim7.holds Tryz.pinned (.plain (OpenSpec.upto lensKeepsSpec)) lensKeepsUptoCard
end Rows
end Go.Proofs.YtmlohboeoeoamaaGreatDoor
