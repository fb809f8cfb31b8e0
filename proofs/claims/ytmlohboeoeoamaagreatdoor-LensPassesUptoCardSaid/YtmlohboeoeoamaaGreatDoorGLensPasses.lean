import Derived.Test.YtmlohboeoeoamaaGreatDoorRows
import Derived.ProofKit
import Derived.SevenTiedAt
import Derived.Test.YtmlohboeoeoamaaGreatDoorProg
namespace Go.Proofs.YtmlohboeoeoamaaGreatDoor
open Go.ChangeShapes Go.WideShapes Go.ChangeAt Go.RowKit

namespace PLensPasses
theorem jg : false = Rows.lensPassesUptoRow.goesBy Tryz.prog := by kernel_rfl
end PLensPasses
end Go.Proofs.YtmlohboeoeoamaaGreatDoor
