/-
  For any argument the law RequestPercents answers true, and its arguments read behind the call as they read before: the tied card.
  Conditions: none beyond the form's own.
-/
import Derived.Test.YtcdeikhfmllkdaaGreatDoorPeO
namespace Go.Proofs.YtcdeikhfmllkdaaGreatDoor.requestPercents
open Go.ChangeShapes Go.WideShapes Go.ChangeAt Go.RowKit
open Go.ChangeMaps (open_string shut_string)
set_option linter.unusedVariables false

theorem card : Rows.RequestPercentsCardSaid :=
  Claim7.holds_tied_plain_at .later [] [.data, .data, .data, .data, .sentinel, .sentinel, .pinned] true (true, "91b09115f43d6ad44919e8c0c992e06127ec8372870d903840e1235ef9d044cb") true
    over (fun _ h => by cases h) (by kernel_rfl) (fun _ h => by cases h) requestPercents_row_tie rfl ⟨rfl, rfl⟩ (by kernel_rfl) rfl
    (fun f fn hf hfn => by
      obtain rfl : f = 5 := Option.some.inj ((show Tryz.prog.funcNamed "watchfire/watchfirelaw32.RequestPercents" = some 5 by kernel_rfl).symm.trans hf) |>.symm
      obtain rfl : fn = Tryz.f5 := (Option.some.inj (Tryz.func5.symm.trans hfn)).symm
      exact ⟨by kernel_rfl, fun j t ht => by
        rw [Tryz.params5] at ht
        have h9 : t = 9 := by
          rcases j with _ | _ | j
          · simpa using ht.symm
          · simpa using ht.symm
          · simp at ht
        rcases h9 with rfl
        · exact (show Tryz.prog.wantsStandIn 9 = false by kernel_rfl)⟩)
    (by kernel_rfl)
end Go.Proofs.YtcdeikhfmllkdaaGreatDoor.requestPercents
namespace Go.Proofs.YtcdeikhfmllkdaaGreatDoor
/-- The tied card, under a short name, for the claim. -/
theorem requestPercents_holds : Rows.RequestPercentsCardSaid := requestPercents.card
#print axioms requestPercents_holds
end Go.Proofs.YtcdeikhfmllkdaaGreatDoor
