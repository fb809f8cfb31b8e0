/-
  DERIVED. GIVEN WITH THE SEED: THE CARDS: each row of YtgnfjkkfbcnbfaaGreatDoorRows.lean that lists a variable, with what it lists TIED to the program's text (the seventh form; the later family's looks); each row that meets fmt, with fmt's text TOLD by the authors' own Lean function (tested against real Go, not proved from fmt's source: count such statements apart). THE CARD IS WHAT COUNTS. Prove the row's statement (the work); the ties are given (YtgnfjkkfbcnbfaaGreatDoorTie.lean); close each card by the builder's one call (the guide's Derived/Test/ToyasCard.lean, 'card_holds'). Laid BY PROGRAM, IN A SANDBOX (cutbox-door.mjs). By AI agents, Wed Nov 11 2026. No macro, syntax, notation, axiom, sorry.
-/
import Derived.Test.YtgnfjkkfbcnbfaaGreatDoorRows
import GoSem.ClaimSeven
namespace Go.Proofs.YtgnfjkkfbcnbfaaGreatDoor
namespace Rows

/-- THE TIED CARD OF 'wireschemalaw25.TagdecLimits'. -/
def tagdecLimitsCard : Claim7 := { stood := { row := tagdecLimitsRow, standIns := [], harness := (true, "0acf09a4d62b80f0952e9990f16125e2959e480514ad435c797b17ca8860fc80"), looks := true }, kinds := [], alts := [], laidByText := true, laidKinds := [.data, .pinned], laidTests := true, laidLooks := .later }
def TagdecLimitsCardSaid : Prop := Claim7.holds Tryz.pinned (.plain (OpenSpec.ofChange tagdecLimitsSpec)) tagdecLimitsCard

/-- THE SECOND FORM's CARD OF 'wireschemalaw25.TagdecLimits'. -/
def tagdecLimitsUptoCard : Claim7 := { stood := { row := tagdecLimitsUptoRow, standIns := [], harness := (true, "0acf09a4d62b80f0952e9990f16125e2959e480514ad435c797b17ca8860fc80"), looks := true }, kinds := [], alts := [], laidByText := true, laidKinds := [.data, .pinned], laidTests := true, laidLooks := .later }
def TagdecLimitsUptoCardSaid : Prop := Claim7.holds Tryz.pinned (.plain (OpenSpec.upto tagdecLimitsSpec)) tagdecLimitsUptoCard
end Rows
end Go.Proofs.YtgnfjkkfbcnbfaaGreatDoor
