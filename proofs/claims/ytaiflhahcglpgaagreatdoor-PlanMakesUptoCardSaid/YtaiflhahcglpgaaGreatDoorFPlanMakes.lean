import Derived.Test.YtaiflhahcglpgaaGreatDoorRows
import Derived.ProofKit
import Derived.Test.YtaiflhahcglpgaaGreatDoorProg
namespace Go.Proofs.YtaiflhahcglpgaaGreatDoor
open Go.ChangeShapes Go.WideShapes Go.ChangeAt Go.RowKit

namespace PPlanMakes
theorem j0 : (Rows.planMakesUptoRow.inPlace == Tryz.prog.inPlace 3) = true := by kernel_rfl
theorem j1 : (Rows.planMakesUptoRow.unfollowed == Tryz.prog.unfollowed 3) = true := by kernel_rfl
theorem j2 : (Rows.planMakesUptoRow.recurses == Tryz.prog.recurses 3) = true := by kernel_rfl
theorem j3 : (Rows.planMakesUptoRow.named == Tryz.prog.varsNamed 3) = true := by kernel_rfl
theorem j4 : Tryz.prog.mayEnter = true := by kernel_rfl
theorem jf : joinedFacts Tryz.prog 3 Tryz.f3 (Rows.OpenSpec.upto Rows.planMakesSpec).bare Rows.planMakesUptoRow = true := by
  unfold joinedFacts
  rw [j0, j1, j2, j3, j4]
  kernel_rfl
end PPlanMakes
end Go.Proofs.YtaiflhahcglpgaaGreatDoor
