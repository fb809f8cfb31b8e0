import Derived.Test.YtaiflhahcglpgaaGreatDoorRows
import Derived.ProofKit
import Derived.Test.YtaiflhahcglpgaaGreatDoorProg
namespace Go.Proofs.YtaiflhahcglpgaaGreatDoor
open Go.ChangeShapes Go.WideShapes Go.ChangeAt Go.RowKit

namespace PPlanComplete
theorem j0 : (Rows.planCompleteUptoRow.inPlace == Tryz.prog.inPlace 4) = true := by kernel_rfl
theorem j1 : (Rows.planCompleteUptoRow.unfollowed == Tryz.prog.unfollowed 4) = true := by kernel_rfl
theorem j2 : (Rows.planCompleteUptoRow.recurses == Tryz.prog.recurses 4) = true := by kernel_rfl
theorem j3 : (Rows.planCompleteUptoRow.named == Tryz.prog.varsNamed 4) = true := by kernel_rfl
theorem j4 : Tryz.prog.mayEnter = true := by kernel_rfl
theorem jf : joinedFacts Tryz.prog 4 Tryz.f4 (Rows.OpenSpec.upto Rows.planCompleteSpec).bare Rows.planCompleteUptoRow = true := by
  unfold joinedFacts
  rw [j0, j1, j2, j3, j4]
  kernel_rfl
end PPlanComplete
end Go.Proofs.YtaiflhahcglpgaaGreatDoor
