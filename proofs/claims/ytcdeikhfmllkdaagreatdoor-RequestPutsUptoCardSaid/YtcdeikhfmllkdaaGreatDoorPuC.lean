/-
  For any alerts whose bulk is at most 1048576 the law RequestPuts answers true, and the alerts read behind the call as they read before: the tied card.
  Conditions: none beyond the form's own.
-/
import Derived.Test.YtcdeikhfmllkdaaGreatDoorPuO
namespace Go.Proofs.YtcdeikhfmllkdaaGreatDoor.requestPuts
open Go.ChangeShapes Go.WideShapes Go.ChangeAt Go.RowKit
open Go.ChangeMaps (open_string shut_string)
set_option linter.unusedVariables false

theorem card : Rows.RequestPutsUptoCardSaid :=
  Claim7.holds_tied_plain_at .later [] [.data, .data, .data, .data, .sentinel, .sentinel, .pinned] true (true, "91b09115f43d6ad44919e8c0c992e06127ec8372870d903840e1235ef9d044cb") true
    over (fun _ h => by cases h) (by kernel_rfl) (fun _ h => by cases h) requestPutsUpto_row_tie rfl ⟨rfl, rfl⟩ (by kernel_rfl) rfl
    (fun f fn hf hfn => by
      obtain rfl : f = 8 := Option.some.inj ((show Tryz.prog.funcNamed "watchfire/watchfirelaw32.RequestPuts" = some 8 by kernel_rfl).symm.trans hf) |>.symm
      obtain rfl : fn = Tryz.f8 := (Option.some.inj (Tryz.func8.symm.trans hfn)).symm
      exact ⟨by kernel_rfl, fun j t ht => by
        rw [Tryz.params8] at ht
        have h9 : t = 24 := by
          rcases j with _ | j
          · simpa using ht.symm
          · simp at ht
        rcases h9 with rfl
        · exact (show Tryz.prog.wantsStandIn 24 = false by kernel_rfl)⟩)
    (by kernel_rfl)
end Go.Proofs.YtcdeikhfmllkdaaGreatDoor.requestPuts
namespace Go.Proofs.YtcdeikhfmllkdaaGreatDoor
/-- The tied card of the second form, under a short name, for the claim. -/
theorem requestPuts_holds : Rows.RequestPutsUptoCardSaid := requestPuts.card
#print axioms requestPuts_holds
end Go.Proofs.YtcdeikhfmllkdaaGreatDoor
