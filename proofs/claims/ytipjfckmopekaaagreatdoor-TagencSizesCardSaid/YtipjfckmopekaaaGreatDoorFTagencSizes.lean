/- What of the law TagencSizes can be read off the program (closed facts, one after the other). No conditions. -/
import Derived.Test.YtipjfckmopekaaaGreatDoorRows
import Derived.ProofKit
import Derived.Test.YtipjfckmopekaaaGreatDoorProg
namespace Go.Proofs.YtipjfckmopekaaaGreatDoor
open Go.ChangeShapes Go.WideShapes Go.ChangeAt Go.RowKit

namespace PTagencSizes
theorem j0 : (Rows.tagencSizesRow.inPlace == Tryz.prog.inPlace 6) = true := by kernel_rfl
theorem j1 : (Rows.tagencSizesRow.unfollowed == Tryz.prog.unfollowed 6) = true := by kernel_rfl
theorem j2 : (Rows.tagencSizesRow.recurses == Tryz.prog.recurses 6) = true := by kernel_rfl
theorem j3 : (Rows.tagencSizesRow.named == Tryz.prog.varsNamed 6) = true := by kernel_rfl
theorem j4 : Tryz.prog.mayEnter = true := by kernel_rfl
theorem jf : joinedFacts Tryz.prog 6 Tryz.f6 Rows.tagencSizesSpec Rows.tagencSizesRow = true := by
  unfold joinedFacts
  rw [j0, j1, j2, j3, j4]
  kernel_rfl
end PTagencSizes
end Go.Proofs.YtipjfckmopekaaaGreatDoor
