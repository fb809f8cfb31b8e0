/- What of the law TagencEncodes can be read off the program (closed facts, one after the other). No conditions. -/
import Derived.Test.YtipjfckmopekaaaGreatDoorRows
import Derived.ProofKit
import Derived.Test.YtipjfckmopekaaaGreatDoorProg
namespace Go.Proofs.YtipjfckmopekaaaGreatDoor
open Go.ChangeShapes Go.WideShapes Go.ChangeAt Go.RowKit

namespace PTagencEncodes
theorem j0 : (Rows.tagencEncodesRow.inPlace == Tryz.prog.inPlace 3) = true := by kernel_rfl
theorem j1 : (Rows.tagencEncodesRow.unfollowed == Tryz.prog.unfollowed 3) = true := by kernel_rfl
theorem j2 : (Rows.tagencEncodesRow.recurses == Tryz.prog.recurses 3) = true := by kernel_rfl
theorem j3 : (Rows.tagencEncodesRow.named == Tryz.prog.varsNamed 3) = true := by kernel_rfl
theorem j4 : Tryz.prog.mayEnter = true := by kernel_rfl
theorem jf : joinedFacts Tryz.prog 3 Tryz.f3 Rows.tagencEncodesSpec Rows.tagencEncodesRow = true := by
  unfold joinedFacts
  rw [j0, j1, j2, j3, j4]
  kernel_rfl
end PTagencEncodes
end Go.Proofs.YtipjfckmopekaaaGreatDoor
