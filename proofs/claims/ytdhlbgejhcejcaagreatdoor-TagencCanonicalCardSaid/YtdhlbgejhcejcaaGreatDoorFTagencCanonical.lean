import Derived.Test.YtdhlbgejhcejcaaGreatDoorRows
import Derived.ProofKit
import Derived.Test.YtdhlbgejhcejcaaGreatDoorProg
namespace Go.Proofs.YtdhlbgejhcejcaaGreatDoor
open Go.ChangeShapes Go.WideShapes Go.ChangeAt Go.RowKit

namespace PTagencCanonical
theorem j0 : (Rows.tagencCanonicalRow.inPlace == Tryz.prog.inPlace 3) = true := by kernel_rfl
theorem j1 : (Rows.tagencCanonicalRow.unfollowed == Tryz.prog.unfollowed 3) = true := by kernel_rfl
theorem j2 : (Rows.tagencCanonicalRow.recurses == Tryz.prog.recurses 3) = true := by kernel_rfl
theorem j3 : (Rows.tagencCanonicalRow.named == Tryz.prog.varsNamed 3) = true := by kernel_rfl
theorem j4 : Tryz.prog.mayEnter = true := by kernel_rfl
theorem jf : joinedFacts Tryz.prog 3 Tryz.f3 Rows.tagencCanonicalSpec Rows.tagencCanonicalRow = true := by
  unfold joinedFacts
  rw [j0, j1, j2, j3, j4]
  kernel_rfl
end PTagencCanonical
end Go.Proofs.YtdhlbgejhcejcaaGreatDoor
