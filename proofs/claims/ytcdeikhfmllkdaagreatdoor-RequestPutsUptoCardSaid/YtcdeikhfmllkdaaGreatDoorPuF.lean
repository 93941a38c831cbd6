/- RequestPuts: the row's closed facts, one by one. -/
import Derived.Test.YtcdeikhfmllkdaaGreatDoorLd
import Derived.JoinedOf
namespace Go.Proofs.YtcdeikhfmllkdaaGreatDoor.requestPuts
open Go.RowKit
theorem fact1 : (Rows.requestPutsUptoRow.inPlace == Tryz.prog.inPlace 8) = true := by kernel_rfl
theorem fact2 : (Rows.requestPutsUptoRow.unfollowed == Tryz.prog.unfollowed 8) = true := by kernel_rfl
theorem fact3 : (Rows.requestPutsUptoRow.recurses == Tryz.prog.recurses 8) = true := by kernel_rfl
theorem fact4 : (Rows.requestPutsUptoRow.named == Tryz.prog.varsNamed 8) = true := by kernel_rfl
theorem facts : joinedFacts Tryz.prog 8 Tryz.f8 (Rows.OpenSpec.upto Rows.requestPutsSpec).bare Rows.requestPutsUptoRow = true := by
  unfold joinedFacts
  rw [fact1, fact2, fact3, fact4]
  kernel_rfl
end Go.Proofs.YtcdeikhfmllkdaaGreatDoor.requestPuts
