import Derived.Test.YtmlohboeoeoamaaGreatDoorRows
import Derived.ProofKit
import Derived.Test.YtmlohboeoeoamaaGreatDoorProg
namespace Go.Proofs.YtmlohboeoeoamaaGreatDoor
open Go.ChangeShapes Go.WideShapes Go.ChangeAt Go.RowKit

namespace PLensKeeps
theorem j0 : (Rows.lensKeepsUptoRow.inPlace == Tryz.prog.inPlace 4) = true := by kernel_rfl
theorem j1 : (Rows.lensKeepsUptoRow.unfollowed == Tryz.prog.unfollowed 4) = true := by kernel_rfl
theorem j2 : (Rows.lensKeepsUptoRow.recurses == Tryz.prog.recurses 4) = true := by kernel_rfl
theorem j3 : (Rows.lensKeepsUptoRow.named == Tryz.prog.varsNamed 4) = true := by kernel_rfl
theorem j4 : Tryz.prog.mayEnter = true := by kernel_rfl
theorem jf : joinedFacts Tryz.prog 4 Tryz.f4 (Rows.OpenSpec.upto Rows.lensKeepsSpec).bare Rows.lensKeepsUptoRow = true := by
  unfold joinedFacts
  rw [j0, j1, j2, j3, j4]
  kernel_rfl
end PLensKeeps
end Go.Proofs.YtmlohboeoeoamaaGreatDoor
