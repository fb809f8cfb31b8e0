/- What of the law TagencSlots can be read off the program (closed facts, one after the other). No conditions. -/
import Derived.Test.YtipjfckmopekaaaGreatDoorRows
import Derived.ProofKit
import Derived.Test.YtipjfckmopekaaaGreatDoorProg
namespace Go.Proofs.YtipjfckmopekaaaGreatDoor
open Go.ChangeShapes Go.WideShapes Go.ChangeAt Go.RowKit

namespace PTagencSlots
theorem j0 : (Rows.tagencSlotsRow.inPlace == Tryz.prog.inPlace 5) = true := by kernel_rfl
theorem j1 : (Rows.tagencSlotsRow.unfollowed == Tryz.prog.unfollowed 5) = true := by kernel_rfl
theorem j2 : (Rows.tagencSlotsRow.recurses == Tryz.prog.recurses 5) = true := by kernel_rfl
theorem j3 : (Rows.tagencSlotsRow.named == Tryz.prog.varsNamed 5) = true := by kernel_rfl
theorem j4 : Tryz.prog.mayEnter = true := by kernel_rfl
theorem jf : joinedFacts Tryz.prog 5 Tryz.f5 Rows.tagencSlotsSpec Rows.tagencSlotsRow = true := by
  unfold joinedFacts
  rw [j0, j1, j2, j3, j4]
  kernel_rfl
end PTagencSlots
end Go.Proofs.YtipjfckmopekaaaGreatDoor
