/- RequestEscapes: the row's closed facts, one by one. -/
import Derived.Test.YtcdeikhfmllkdaaGreatDoorLd
import Derived.JoinedOf
namespace Go.Proofs.YtcdeikhfmllkdaaGreatDoor.requestEscapes
open Go.RowKit
theorem fact1 : (Rows.requestEscapesRow.inPlace == Tryz.prog.inPlace 7) = true := by kernel_rfl
theorem fact2 : (Rows.requestEscapesRow.unfollowed == Tryz.prog.unfollowed 7) = true := by kernel_rfl
theorem fact3 : (Rows.requestEscapesRow.recurses == Tryz.prog.recurses 7) = true := by kernel_rfl
theorem fact4 : (Rows.requestEscapesRow.named == Tryz.prog.varsNamed 7) = true := by kernel_rfl
theorem facts : joinedFacts Tryz.prog 7 Tryz.f7 Rows.requestEscapesSpec Rows.requestEscapesRow = true := by
  unfold joinedFacts
  rw [fact1, fact2, fact3, fact4]
  kernel_rfl
end Go.Proofs.YtcdeikhfmllkdaaGreatDoor.requestEscapes
