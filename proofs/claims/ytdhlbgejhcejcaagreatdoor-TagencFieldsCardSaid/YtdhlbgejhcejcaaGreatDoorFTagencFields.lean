import Derived.Test.YtdhlbgejhcejcaaGreatDoorRows
import Derived.ProofKit
import Derived.Test.YtdhlbgejhcejcaaGreatDoorProg
namespace Go.Proofs.YtdhlbgejhcejcaaGreatDoor
open Go.ChangeShapes Go.WideShapes Go.ChangeAt Go.RowKit

namespace PTagencFields
theorem j0 : (Rows.tagencFieldsRow.inPlace == Tryz.prog.inPlace 4) = true := by kernel_rfl
theorem j1 : (Rows.tagencFieldsRow.unfollowed == Tryz.prog.unfollowed 4) = true := by kernel_rfl
theorem j2 : (Rows.tagencFieldsRow.recurses == Tryz.prog.recurses 4) = true := by kernel_rfl
theorem j3 : (Rows.tagencFieldsRow.named == Tryz.prog.varsNamed 4) = true := by kernel_rfl
theorem j4 : Tryz.prog.mayEnter = true := by kernel_rfl
theorem jf : joinedFacts Tryz.prog 4 Tryz.f4 Rows.tagencFieldsSpec Rows.tagencFieldsRow = true := by
  unfold joinedFacts
  rw [j0, j1, j2, j3, j4]
  kernel_rfl
end PTagencFields
end Go.Proofs.YtdhlbgejhcejcaaGreatDoor
