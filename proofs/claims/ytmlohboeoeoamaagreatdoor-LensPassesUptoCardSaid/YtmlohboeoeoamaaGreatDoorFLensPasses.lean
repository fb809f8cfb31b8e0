import Derived.Test.YtmlohboeoeoamaaGreatDoorRows
import Derived.ProofKit
import Derived.Test.YtmlohboeoeoamaaGreatDoorProg
namespace Go.Proofs.YtmlohboeoeoamaaGreatDoor
open Go.ChangeShapes Go.WideShapes Go.ChangeAt Go.RowKit

namespace PLensPasses
theorem j0 : (Rows.lensPassesUptoRow.inPlace == Tryz.prog.inPlace 3) = true := by kernel_rfl
theorem j1 : (Rows.lensPassesUptoRow.unfollowed == Tryz.prog.unfollowed 3) = true := by kernel_rfl
theorem j2 : (Rows.lensPassesUptoRow.recurses == Tryz.prog.recurses 3) = true := by kernel_rfl
theorem j3 : (Rows.lensPassesUptoRow.named == Tryz.prog.varsNamed 3) = true := by kernel_rfl
theorem j4 : Tryz.prog.mayEnter = true := by kernel_rfl
theorem jf : joinedFacts Tryz.prog 3 Tryz.f3 (Rows.OpenSpec.upto Rows.lensPassesSpec).bare Rows.lensPassesUptoRow = true := by
  unfold joinedFacts
  rw [j0, j1, j2, j3, j4]
  kernel_rfl
end PLensPasses
end Go.Proofs.YtmlohboeoeoamaaGreatDoor
