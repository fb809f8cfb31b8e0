import Derived.Test.YtnpajgoobomndaaGreatDoorRows
import Derived.ProofKit
import Derived.Test.YtnpajgoobomndaaGreatDoorProg
namespace Go.Proofs.YtnpajgoobomndaaGreatDoor
open Go.ChangeShapes Go.WideShapes Go.ChangeAt Go.RowKit

namespace PVerdictOwn
theorem j0 : (Rows.verdictOwnUptoRow.inPlace == Tryz.prog.inPlace 3) = true := by kernel_rfl
theorem j1 : (Rows.verdictOwnUptoRow.unfollowed == Tryz.prog.unfollowed 3) = true := by kernel_rfl
theorem j2 : (Rows.verdictOwnUptoRow.recurses == Tryz.prog.recurses 3) = true := by kernel_rfl
theorem j3 : (Rows.verdictOwnUptoRow.named == Tryz.prog.varsNamed 3) = true := by kernel_rfl
theorem j4 : Tryz.prog.mayEnter = true := by kernel_rfl
theorem jf : joinedFacts Tryz.prog 3 Tryz.f3 (Rows.OpenSpec.upto Rows.verdictOwnSpec).bare Rows.verdictOwnUptoRow = true := by
  unfold joinedFacts
  rw [j0, j1, j2, j3, j4]
  kernel_rfl
end PVerdictOwn
end Go.Proofs.YtnpajgoobomndaaGreatDoor
