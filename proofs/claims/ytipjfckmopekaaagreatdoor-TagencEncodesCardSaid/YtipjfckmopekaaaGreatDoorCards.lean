/-
  DERIVED. GIVEN WITH THE SEED: THE CARDS: each row of YtipjfckmopekaaaGreatDoorRows.lean that lists a variable, with what it lists TIED to the program's text (the seventh form; the later family's looks); each row that meets fmt, with fmt's text TOLD by the authors' own Lean function (tested against real Go, not proved from fmt's source: count such statements apart). THE CARD IS WHAT COUNTS. Prove the row's statement (the work); the ties are given (YtipjfckmopekaaaGreatDoorTie.lean); close each card by the builder's one call (the guide's Derived/Test/ToyasCard.lean, 'card_holds'). Laid BY PROGRAM, IN A SANDBOX (cutbox-door.mjs). By AI agents, Wed Nov 11 2026. No macro, syntax, notation, axiom, sorry.
-/
import Derived.Test.YtipjfckmopekaaaGreatDoorRows
import GoSem.ClaimSeven
namespace Go.Proofs.YtipjfckmopekaaaGreatDoor
namespace Rows

/-- THE TIED CARD OF 'wireschemalaw24.TagencEncodes'. -/
def tagencEncodesCard : Claim7 := { stood := { row := tagencEncodesRow, standIns := [], harness := (true, "b1207cc8384a44b699083a54076f5ad1eb3955b230a016ad585cdf9e6f2c8e69"), looks := true }, kinds := [], alts := [], laidByText := true, laidKinds := [.data, .pinned], laidTests := true, laidLooks := .later }
def TagencEncodesCardSaid : Prop := Claim7.holds Tryz.pinned (.plain (OpenSpec.ofChange tagencEncodesSpec)) tagencEncodesCard

/-- THE TIED CARD OF 'wireschemalaw24.TagencBodies'. -/
def tagencBodiesCard : Claim7 := { stood := { row := tagencBodiesRow, standIns := [], harness := (true, "b1207cc8384a44b699083a54076f5ad1eb3955b230a016ad585cdf9e6f2c8e69"), looks := true }, kinds := [], alts := [], laidByText := true, laidKinds := [.data, .pinned], laidTests := true, laidLooks := .later }
def TagencBodiesCardSaid : Prop := Claim7.holds Tryz.pinned (.plain (OpenSpec.ofChange tagencBodiesSpec)) tagencBodiesCard

/-- THE TIED CARD OF 'wireschemalaw24.TagencSlots'. -/
def tagencSlotsCard : Claim7 := { stood := { row := tagencSlotsRow, standIns := [], harness := (true, "b1207cc8384a44b699083a54076f5ad1eb3955b230a016ad585cdf9e6f2c8e69"), looks := true }, kinds := [], alts := [], laidByText := true, laidKinds := [.data, .pinned], laidTests := true, laidLooks := .later }
def TagencSlotsCardSaid : Prop := Claim7.holds Tryz.pinned (.plain (OpenSpec.ofChange tagencSlotsSpec)) tagencSlotsCard

/-- THE TIED CARD OF 'wireschemalaw24.TagencSizes'. -/
def tagencSizesCard : Claim7 := { stood := { row := tagencSizesRow, standIns := [], harness := (true, "b1207cc8384a44b699083a54076f5ad1eb3955b230a016ad585cdf9e6f2c8e69"), looks := true }, kinds := [], alts := [], laidByText := true, laidKinds := [.data, .pinned], laidTests := true, laidLooks := .later }
def TagencSizesCardSaid : Prop := Claim7.holds Tryz.pinned (.plain (OpenSpec.ofChange tagencSizesSpec)) tagencSizesCard

/-- THE SECOND FORM's CARD OF 'wireschemalaw24.TagencEncodes'. -/
def tagencEncodesUptoCard : Claim7 := { stood := { row := tagencEncodesUptoRow, standIns := [], harness := (true, "b1207cc8384a44b699083a54076f5ad1eb3955b230a016ad585cdf9e6f2c8e69"), looks := true }, kinds := [], alts := [], laidByText := true, laidKinds := [.data, .pinned], laidTests := true, laidLooks := .later }
def TagencEncodesUptoCardSaid : Prop := Claim7.holds Tryz.pinned (.plain (OpenSpec.upto tagencEncodesSpec)) tagencEncodesUptoCard

/-- THE SECOND FORM's CARD OF 'wireschemalaw24.TagencBodies'. -/
def tagencBodiesUptoCard : Claim7 := { stood := { row := tagencBodiesUptoRow, standIns := [], harness := (true, "b1207cc8384a44b699083a54076f5ad1eb3955b230a016ad585cdf9e6f2c8e69"), looks := true }, kinds := [], alts := [], laidByText := true, laidKinds := [.data, .pinned], laidTests := true, laidLooks := .later }
def TagencBodiesUptoCardSaid : Prop := Claim7.holds Tryz.pinned (.plain (OpenSpec.upto tagencBodiesSpec)) tagencBodiesUptoCard

/-- THE SECOND FORM's CARD OF 'wireschemalaw24.TagencSlots'. -/
def tagencSlotsUptoCard : Claim7 := { stood := { row := tagencSlotsUptoRow, standIns := [], harness := (true, "b1207cc8384a44b699083a54076f5ad1eb3955b230a016ad585cdf9e6f2c8e69"), looks := true }, kinds := [], alts := [], laidByText := true, laidKinds := [.data, .pinned], laidTests := true, laidLooks := .later }
def TagencSlotsUptoCardSaid : Prop := Claim7.holds Tryz.pinned (.plain (OpenSpec.upto tagencSlotsSpec)) tagencSlotsUptoCard

/-- THE SECOND FORM's CARD OF 'wireschemalaw24.TagencSizes'. -/
def tagencSizesUptoCard : Claim7 := { stood := { row := tagencSizesUptoRow, standIns := [], harness := (true, "b1207cc8384a44b699083a54076f5ad1eb3955b230a016ad585cdf9e6f2c8e69"), looks := true }, kinds := [], alts := [], laidByText := true, laidKinds := [.data, .pinned], laidTests := true, laidLooks := .later }
def TagencSizesUptoCardSaid : Prop := Claim7.holds Tryz.pinned (.plain (OpenSpec.upto tagencSizesSpec)) tagencSizesUptoCard
end Rows
end Go.Proofs.YtipjfckmopekaaaGreatDoor
