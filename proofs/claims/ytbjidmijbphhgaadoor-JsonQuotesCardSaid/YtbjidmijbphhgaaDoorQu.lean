import Derived.Test.YtbjidmijbphhgaaDoorRa
/- JsonQuotes, walked. -/
namespace Go.Proofs.YtbjidmijbphhgaaDoor
open Go.RowKit
set_option linter.unusedVariables false
set_option linter.unusedSimpArgs false

set_option maxRecDepth 100000 in
set_option maxHeartbeats 2000000 in
theorem quotes_main {w : World} (hT : Tabs w) (l : Bytes) : Calls Tryd.prog 5 #[.string (str l)] w fun e w' => e = .returned (.bool true) ∧ Below w.heap.size w w' := by
  have HT := Lib.hid hT
  clear hT
  by_cases hl : l.length > 5000
  · have c1 : decide (((str l).size : Int) > 5000) = true := by rw [str_size]; exact decide_eq_true (by omega)
    have c2 : decide (5000 < ((str l).size : Int)) = true := by rw [str_size]; exact decide_eq_true (by omega)
    go_enter Tryd.func5, Tryd.ntmps5
    go_wp2_with fail
    refine (awake_any HT.out).mono ?_
    rintro e w1 ⟨rfl, hb⟩
    have HB := Lib.hid hb
    clear hb
    go_wp2
    go_ret
    exact ⟨rfl, HB.out⟩
  · have c1 : decide (((str l).size : Int) > 5000) = false := by rw [str_size]; exact decide_eq_false (by omega)
    have c2 : decide (5000 < ((str l).size : Int)) = false := by rw [str_size]; exact decide_eq_false (by omega)
    have HL := Lib.hid hl
    clear hl
    go_enter Tryd.func5, Tryd.ntmps5
    go_wp2_with fail
    refine (Quote_any HT.out l (by have := HL.out; omega)).mono ?_
    rintro e w1 ⟨rfl, hb⟩
    have HB := Lib.hid hb
    clear hb
    go_wp2_with fail
    refine (Quote_ref l (by have := HL.out; omega) w1).mono ?_
    rintro e w2 ⟨rfl, hb⟩
    have HC : Hid (Below w.heap.size w w2) := Lib.hid (HB.out.trans (hb.mono HB.out.size))
    clear hb
    go_wp2_with fail
    refine (awake_any (tabs_below HT.out HC.out)).mono ?_
    rintro e w3 ⟨rfl, hb⟩
    have HD : Hid (Below w.heap.size w w3) := Lib.hid (HC.out.trans (hb.mono HC.out.size))
    clear hb
    go_wp2
    go_ret
    exact ⟨by first | rfl | (simp; done), HD.out⟩
end Go.Proofs.YtbjidmijbphhgaaDoor
