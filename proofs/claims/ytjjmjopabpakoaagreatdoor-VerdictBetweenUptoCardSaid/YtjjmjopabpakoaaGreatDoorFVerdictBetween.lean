import Derived.Test.YtjjmjopabpakoaaGreatDoorRows
import Derived.ProofKit
import Derived.Test.YtjjmjopabpakoaaGreatDoorProg
namespace Go.Proofs.YtjjmjopabpakoaaGreatDoor
open Go.ChangeShapes Go.WideShapes Go.ChangeAt Go.RowKit

namespace PVerdictBetween
theorem j0 : (Rows.verdictBetweenUptoRow.inPlace == Tryz.prog.inPlace 4) = true := by kernel_rfl
theorem j1 : (Rows.verdictBetweenUptoRow.unfollowed == Tryz.prog.unfollowed 4) = true := by kernel_rfl
theorem j2 : (Rows.verdictBetweenUptoRow.recurses == Tryz.prog.recurses 4) = true := by kernel_rfl
theorem j3 : (Rows.verdictBetweenUptoRow.named == Tryz.prog.varsNamed 4) = true := by kernel_rfl
theorem j4 : Tryz.prog.mayEnter = true := by kernel_rfl
theorem jf : joinedFacts Tryz.prog 4 Tryz.f4 (Rows.OpenSpec.upto Rows.verdictBetweenSpec).bare Rows.verdictBetweenUptoRow = true := by
  unfold joinedFacts
  rw [j0, j1, j2, j3, j4]
  kernel_rfl
end PVerdictBetween
end Go.Proofs.YtjjmjopabpakoaaGreatDoor
