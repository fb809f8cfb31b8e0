import Derived.Test.YtjjmjopabpakoaaGreatDoorRows
import Derived.ProofKit
import Derived.Test.YtjjmjopabpakoaaGreatDoorProg
namespace Go.Proofs.YtjjmjopabpakoaaGreatDoor
open Go.ChangeShapes Go.WideShapes Go.ChangeAt Go.RowKit

namespace PVerdictFinds
theorem j0 : (Rows.verdictFindsUptoRow.inPlace == Tryz.prog.inPlace 3) = true := by kernel_rfl
theorem j1 : (Rows.verdictFindsUptoRow.unfollowed == Tryz.prog.unfollowed 3) = true := by kernel_rfl
theorem j2 : (Rows.verdictFindsUptoRow.recurses == Tryz.prog.recurses 3) = true := by kernel_rfl
theorem j3 : (Rows.verdictFindsUptoRow.named == Tryz.prog.varsNamed 3) = true := by kernel_rfl
theorem j4 : Tryz.prog.mayEnter = true := by kernel_rfl
theorem jf : joinedFacts Tryz.prog 3 Tryz.f3 (Rows.OpenSpec.upto Rows.verdictFindsSpec).bare Rows.verdictFindsUptoRow = true := by
  unfold joinedFacts
  rw [j0, j1, j2, j3, j4]
  kernel_rfl
end PVerdictFinds
end Go.Proofs.YtjjmjopabpakoaaGreatDoor
