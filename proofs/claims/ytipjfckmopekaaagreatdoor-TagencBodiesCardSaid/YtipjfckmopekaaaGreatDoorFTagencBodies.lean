/- What of the law TagencBodies can be read off the program (closed facts, one after the other). No conditions. -/
import Derived.Test.YtipjfckmopekaaaGreatDoorRows
import Derived.ProofKit
import Derived.Test.YtipjfckmopekaaaGreatDoorProg
namespace Go.Proofs.YtipjfckmopekaaaGreatDoor
open Go.ChangeShapes Go.WideShapes Go.ChangeAt Go.RowKit

namespace PTagencBodies
theorem j0 : (Rows.tagencBodiesRow.inPlace == Tryz.prog.inPlace 4) = true := by kernel_rfl
theorem j1 : (Rows.tagencBodiesRow.unfollowed == Tryz.prog.unfollowed 4) = true := by kernel_rfl
theorem j2 : (Rows.tagencBodiesRow.recurses == Tryz.prog.recurses 4) = true := by kernel_rfl
theorem j3 : (Rows.tagencBodiesRow.named == Tryz.prog.varsNamed 4) = true := by kernel_rfl
theorem j4 : Tryz.prog.mayEnter = true := by kernel_rfl
theorem jf : joinedFacts Tryz.prog 4 Tryz.f4 Rows.tagencBodiesSpec Rows.tagencBodiesRow = true := by
  unfold joinedFacts
  rw [j0, j1, j2, j3, j4]
  kernel_rfl
end PTagencBodies
end Go.Proofs.YtipjfckmopekaaaGreatDoor
