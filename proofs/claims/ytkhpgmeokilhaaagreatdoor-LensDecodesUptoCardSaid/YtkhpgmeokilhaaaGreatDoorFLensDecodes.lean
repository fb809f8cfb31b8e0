import Derived.Test.YtkhpgmeokilhaaaGreatDoorRows
import Derived.ProofKit
import Derived.Test.YtkhpgmeokilhaaaGreatDoorProg
namespace Go.Proofs.YtkhpgmeokilhaaaGreatDoor
open Go.ChangeShapes Go.WideShapes Go.ChangeAt Go.RowKit

namespace PLensDecodes
theorem j0 : (Rows.lensDecodesUptoRow.inPlace == Tryz.prog.inPlace 3) = true := by kernel_rfl
theorem j1 : (Rows.lensDecodesUptoRow.unfollowed == Tryz.prog.unfollowed 3) = true := by kernel_rfl
theorem j2 : (Rows.lensDecodesUptoRow.recurses == Tryz.prog.recurses 3) = true := by kernel_rfl
theorem j3 : (Rows.lensDecodesUptoRow.named == Tryz.prog.varsNamed 3) = true := by kernel_rfl
theorem j4 : Tryz.prog.mayEnter = true := by kernel_rfl
theorem jf : joinedFacts Tryz.prog 3 Tryz.f3 (Rows.OpenSpec.upto Rows.lensDecodesSpec).bare Rows.lensDecodesUptoRow = true := by
  unfold joinedFacts
  rw [j0, j1, j2, j3, j4]
  kernel_rfl
end PLensDecodes
end Go.Proofs.YtkhpgmeokilhaaaGreatDoor
