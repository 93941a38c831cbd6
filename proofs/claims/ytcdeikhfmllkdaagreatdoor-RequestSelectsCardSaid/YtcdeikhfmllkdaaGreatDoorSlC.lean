/-
  For any argument the law RequestSelects answers true, and its arguments read behind the call as they read before: the tied card.
  Conditions: none beyond the form's own.
-/
import Derived.Test.YtcdeikhfmllkdaaGreatDoorSlO
namespace Go.Proofs.YtcdeikhfmllkdaaGreatDoor.requestSelects
open Go.ChangeShapes Go.WideShapes Go.ChangeAt Go.RowKit
open Go.ChangeMaps (open_string shut_string)
set_option linter.unusedVariables false

theorem card : Rows.RequestSelectsCardSaid :=
  Claim7.holds_tied_plain_at .later [] [.data, .data, .data, .data, .sentinel, .sentinel, .pinned] true (true, "91b09115f43d6ad44919e8c0c992e06127ec8372870d903840e1235ef9d044cb") true
    over (fun _ h => by cases h) (by kernel_rfl) (fun _ h => by cases h) requestSelects_row_tie rfl ⟨rfl, rfl⟩ (by kernel_rfl) rfl
    (fun f fn hf hfn => by
      obtain rfl : f = 9 := Option.some.inj ((show Tryz.prog.funcNamed "watchfire/watchfirelaw32.RequestSelects" = some 9 by kernel_rfl).symm.trans hf) |>.symm
      obtain rfl : fn = Tryz.f9 := (Option.some.inj (Tryz.func9.symm.trans hfn)).symm
      exact ⟨by kernel_rfl, fun j t ht => by
        rw [Tryz.params9] at ht
        have h9 : t = 24 ∨ t = 25 := by
          rcases j with _ | _ | j
          · left; simpa using ht.symm
          · right; simpa using ht.symm
          · simp at ht
        rcases h9 with rfl | rfl
        · exact (show Tryz.prog.wantsStandIn 24 = false by kernel_rfl)
        · exact (show Tryz.prog.wantsStandIn 25 = false by kernel_rfl)⟩)
    (by kernel_rfl)
end Go.Proofs.YtcdeikhfmllkdaaGreatDoor.requestSelects
namespace Go.Proofs.YtcdeikhfmllkdaaGreatDoor
/-- The tied card, under a short name, for the claim. -/
theorem requestSelects_holds : Rows.RequestSelectsCardSaid := requestSelects.card
#print axioms requestSelects_holds
end Go.Proofs.YtcdeikhfmllkdaaGreatDoor
