import Derived.Test.YtdgbidbkcigkhaaGreatDoorRows
import Derived.ProofKit
import Derived.Test.YtdgbidbkcigkhaaGreatDoorProg
namespace Go.Proofs.YtdgbidbkcigkhaaGreatDoor
open Go.ChangeShapes Go.WideShapes Go.ChangeAt Go.RowKit

namespace PRowreadNeeds
theorem j0 : (Rows.rowreadNeedsRow.inPlace == Tryz.prog.inPlace 3) = true := by kernel_rfl
theorem j1 : (Rows.rowreadNeedsRow.unfollowed == Tryz.prog.unfollowed 3) = true := by kernel_rfl
theorem j2 : (Rows.rowreadNeedsRow.recurses == Tryz.prog.recurses 3) = true := by kernel_rfl
theorem j3 : (Rows.rowreadNeedsRow.named == Tryz.prog.varsNamed 3) = true := by kernel_rfl
theorem j4 : Tryz.prog.mayEnter = true := by kernel_rfl
theorem jf : joinedFacts Tryz.prog 3 Tryz.f3 Rows.rowreadNeedsSpec Rows.rowreadNeedsRow = true := by
  unfold joinedFacts
  rw [j0, j1, j2, j3, j4]
  kernel_rfl
end PRowreadNeeds
end Go.Proofs.YtdgbidbkcigkhaaGreatDoor
