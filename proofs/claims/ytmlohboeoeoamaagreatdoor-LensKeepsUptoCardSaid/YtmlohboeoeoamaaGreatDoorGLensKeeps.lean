import Derived.Test.YtmlohboeoeoamaaGreatDoorRows
import Derived.ProofKit
import Derived.SevenTiedAt
import Derived.Test.YtmlohboeoeoamaaGreatDoorProg
namespace Go.Proofs.YtmlohboeoeoamaaGreatDoor
open Go.ChangeShapes Go.WideShapes Go.ChangeAt Go.RowKit

namespace PLensKeeps
theorem jg : false = Rows.lensKeepsUptoRow.goesBy Tryz.prog := by kernel_rfl
end PLensKeeps
end Go.Proofs.YtmlohboeoeoamaaGreatDoor
