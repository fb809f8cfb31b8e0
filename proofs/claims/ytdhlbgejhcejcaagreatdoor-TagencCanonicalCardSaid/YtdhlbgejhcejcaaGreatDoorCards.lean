/-
  DERIVED. GIVEN WITH THE SEED: THE CARDS: each row of YtdhlbgejhcejcaaGreatDoorRows.lean that lists a variable, with what it lists TIED to the program's text (the seventh form; the later family's looks); each row that meets fmt, with fmt's text TOLD by the authors' own Lean function (tested against real Go, not proved from fmt's source: count such statements apart). THE CARD IS WHAT COUNTS. Prove the row's statement (the work); the ties are given (YtdhlbgejhcejcaaGreatDoorTie.lean); close each card by the builder's one call (the guide's Derived/Test/ToyasCard.lean, 'card_holds'). Laid BY PROGRAM, IN A SANDBOX (cutbox-door.mjs). By AI agents, Wed Nov 11 2026. No macro, syntax, notation, axiom, sorry.
-/
import Derived.Test.YtdhlbgejhcejcaaGreatDoorRows
import GoSem.ClaimSeven
namespace Go.Proofs.YtdhlbgejhcejcaaGreatDoor
namespace Rows

/-- THE TIED CARD OF 'wireschemalaw24.TagencCanonical'. -/
def tagencCanonicalCard : Claim7 := { stood := { row := tagencCanonicalRow, standIns := [], harness := (true, "54b423b3b88ec35de43fe4dda113fc1c54c478e6e9d2e2000e837fb35dddc340"), looks := true }, kinds := [], alts := [], laidByText := true, laidKinds := [.data, .pinned], laidTests := true, laidLooks := .later }
def TagencCanonicalCardSaid : Prop := Claim7.holds Tryz.pinned (.plain (OpenSpec.ofChange tagencCanonicalSpec)) tagencCanonicalCard

/-- THE TIED CARD OF 'wireschemalaw24.TagencFields'. -/
def tagencFieldsCard : Claim7 := { stood := { row := tagencFieldsRow, standIns := [], harness := (true, "54b423b3b88ec35de43fe4dda113fc1c54c478e6e9d2e2000e837fb35dddc340"), looks := true }, kinds := [], alts := [], laidByText := true, laidKinds := [.data, .pinned], laidTests := true, laidLooks := .later }
def TagencFieldsCardSaid : Prop := Claim7.holds Tryz.pinned (.plain (OpenSpec.ofChange tagencFieldsSpec)) tagencFieldsCard

/-- THE SECOND FORM's CARD OF 'wireschemalaw24.TagencCanonical'. -/
def tagencCanonicalUptoCard : Claim7 := { stood := { row := tagencCanonicalUptoRow, standIns := [], harness := (true, "54b423b3b88ec35de43fe4dda113fc1c54c478e6e9d2e2000e837fb35dddc340"), looks := true }, kinds := [], alts := [], laidByText := true, laidKinds := [.data, .pinned], laidTests := true, laidLooks := .later }
def TagencCanonicalUptoCardSaid : Prop := Claim7.holds Tryz.pinned (.plain (OpenSpec.upto tagencCanonicalSpec)) tagencCanonicalUptoCard

/-- THE SECOND FORM's CARD OF 'wireschemalaw24.TagencFields'. -/
def tagencFieldsUptoCard : Claim7 := { stood := { row := tagencFieldsUptoRow, standIns := [], harness := (true, "54b423b3b88ec35de43fe4dda113fc1c54c478e6e9d2e2000e837fb35dddc340"), looks := true }, kinds := [], alts := [], laidByText := true, laidKinds := [.data, .pinned], laidTests := true, laidLooks := .later }
def TagencFieldsUptoCardSaid : Prop := Claim7.holds Tryz.pinned (.plain (OpenSpec.upto tagencFieldsSpec)) tagencFieldsUptoCard
end Rows
end Go.Proofs.YtdhlbgejhcejcaaGreatDoor
