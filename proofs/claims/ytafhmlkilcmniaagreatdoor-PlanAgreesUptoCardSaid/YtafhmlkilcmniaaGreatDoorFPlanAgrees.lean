import Derived.Test.YtafhmlkilcmniaaGreatDoorRows
import Derived.ProofKit
import Derived.Test.YtafhmlkilcmniaaGreatDoorProg
namespace Go.Proofs.YtafhmlkilcmniaaGreatDoor
open Go.ChangeShapes Go.WideShapes Go.ChangeAt Go.RowKit

namespace PPlanAgrees
theorem j0 : (Rows.planAgreesUptoRow.inPlace == Tryz.prog.inPlace 3) = true := by kernel_rfl
theorem j1 : (Rows.planAgreesUptoRow.unfollowed == Tryz.prog.unfollowed 3) = true := by kernel_rfl
theorem j2 : (Rows.planAgreesUptoRow.recurses == Tryz.prog.recurses 3) = true := by kernel_rfl
theorem j3 : (Rows.planAgreesUptoRow.named == Tryz.prog.varsNamed 3) = true := by kernel_rfl
theorem j4 : Tryz.prog.mayEnter = true := by kernel_rfl
theorem jf : joinedFacts Tryz.prog 3 Tryz.f3 (Rows.OpenSpec.upto Rows.planAgreesSpec).bare Rows.planAgreesUptoRow = true := by
  unfold joinedFacts
  rw [j0, j1, j2, j3, j4]
  kernel_rfl
end PPlanAgrees
end Go.Proofs.YtafhmlkilcmniaaGreatDoor
