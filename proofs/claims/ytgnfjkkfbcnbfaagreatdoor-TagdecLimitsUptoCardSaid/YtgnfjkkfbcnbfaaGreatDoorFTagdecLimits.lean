import Derived.Test.YtgnfjkkfbcnbfaaGreatDoorRows
import Derived.ProofKit
import Derived.Test.YtgnfjkkfbcnbfaaGreatDoorProg
namespace Go.Proofs.YtgnfjkkfbcnbfaaGreatDoor
open Go.ChangeShapes Go.WideShapes Go.ChangeAt Go.RowKit

namespace PTagdecLimits
theorem j0 : (Rows.tagdecLimitsUptoRow.inPlace == Tryz.prog.inPlace 3) = true := by kernel_rfl
theorem j1 : (Rows.tagdecLimitsUptoRow.unfollowed == Tryz.prog.unfollowed 3) = true := by kernel_rfl
theorem j2 : (Rows.tagdecLimitsUptoRow.recurses == Tryz.prog.recurses 3) = true := by kernel_rfl
theorem j3 : (Rows.tagdecLimitsUptoRow.named == Tryz.prog.varsNamed 3) = true := by kernel_rfl
theorem j4 : Tryz.prog.mayEnter = true := by kernel_rfl
theorem jf : joinedFacts Tryz.prog 3 Tryz.f3 (Rows.OpenSpec.upto Rows.tagdecLimitsSpec).bare Rows.tagdecLimitsUptoRow = true := by
  unfold joinedFacts
  rw [j0, j1, j2, j3, j4]
  kernel_rfl
end PTagdecLimits
end Go.Proofs.YtgnfjkkfbcnbfaaGreatDoor
