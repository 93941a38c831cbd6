/- RequestSelects: the row's closed facts, one by one. -/
import Derived.Test.YtcdeikhfmllkdaaGreatDoorLd
import Derived.JoinedOf
namespace Go.Proofs.YtcdeikhfmllkdaaGreatDoor.requestSelects
open Go.RowKit
theorem fact1 : (Rows.requestSelectsRow.inPlace == Tryz.prog.inPlace 9) = true := by kernel_rfl
theorem fact2 : (Rows.requestSelectsRow.unfollowed == Tryz.prog.unfollowed 9) = true := by kernel_rfl
theorem fact3 : (Rows.requestSelectsRow.recurses == Tryz.prog.recurses 9) = true := by kernel_rfl
theorem fact4 : (Rows.requestSelectsRow.named == Tryz.prog.varsNamed 9) = true := by kernel_rfl
theorem facts : joinedFacts Tryz.prog 9 Tryz.f9 Rows.requestSelectsSpec Rows.requestSelectsRow = true := by
  unfold joinedFacts
  rw [fact1, fact2, fact3, fact4]
  kernel_rfl
end Go.Proofs.YtcdeikhfmllkdaaGreatDoor.requestSelects
