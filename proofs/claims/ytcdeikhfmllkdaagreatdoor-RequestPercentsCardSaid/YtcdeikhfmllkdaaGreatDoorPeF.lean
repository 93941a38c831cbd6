/- RequestPercents: the row's closed facts, one by one. -/
import Derived.Test.YtcdeikhfmllkdaaGreatDoorLd
import Derived.JoinedOf
namespace Go.Proofs.YtcdeikhfmllkdaaGreatDoor.requestPercents
open Go.RowKit
theorem fact1 : (Rows.requestPercentsRow.inPlace == Tryz.prog.inPlace 5) = true := by kernel_rfl
theorem fact2 : (Rows.requestPercentsRow.unfollowed == Tryz.prog.unfollowed 5) = true := by kernel_rfl
theorem fact3 : (Rows.requestPercentsRow.recurses == Tryz.prog.recurses 5) = true := by kernel_rfl
theorem fact4 : (Rows.requestPercentsRow.named == Tryz.prog.varsNamed 5) = true := by kernel_rfl
theorem facts : joinedFacts Tryz.prog 5 Tryz.f5 Rows.requestPercentsSpec Rows.requestPercentsRow = true := by
  unfold joinedFacts
  rw [fact1, fact2, fact3, fact4]
  kernel_rfl
end Go.Proofs.YtcdeikhfmllkdaaGreatDoor.requestPercents
