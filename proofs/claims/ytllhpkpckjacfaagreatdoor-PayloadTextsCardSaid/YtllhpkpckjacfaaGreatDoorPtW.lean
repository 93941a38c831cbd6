/- PayloadTexts, walked. -/
import Derived.Test.YtllhpkpckjacfaaGreatDoorPm1
import Derived.Test.YtllhpkpckjacfaaGreatDoorPm3
namespace Go.Proofs.YtllhpkpckjacfaaGreatDoor
open Go.RowKit Go.Proofs.YtllhpkpckjacfaaGreatDoorW.PrintWords PTemplateFilters
set_option linter.unusedVariables false
set_option linter.unusedSimpArgs false

set_option maxRecDepth 100000 in
set_option maxHeartbeats 1600000 in
theorem texts_holds1 {w : World} (hT : Tabs w) (b : Bytes) (most : Int) : Calls Tryz.prog 9 #[.string (str b), .int .i64 most] w fun e w' => e = .returned (.bool true) ∧ Below w.heap.size w w' := by
  have hz := str_size b
  have HAw : Hid (∀ w1, Below w.heap.size w w1 → Calls Tryz.prog 20 #[] w1 fun e w' => e = .returned (.bool true) ∧ Below w1.heap.size w1 w') := Lib.hid (fun w1 hb => awake29_any (hT.below hb))
  by_cases h3 : 2000 < b.length
  · have h3i : (2000 : Int) < (b.length : Int) := by omega
    have HA := Lib.hid (HAw.out w (Below.refl _ _))
    go_enter Tryz.func9, Tryz.ntmps9
    go_wp2_with (first | (go_at_call 20; (refine HA.out.mono ?_); rintro e w2 ⟨rfl, hb2⟩))
    go_ret
    exact ⟨rfl, hb2⟩
  · have h3i : ¬ (2000 : Int) < (b.length : Int) := by omega
    have F1 := Lib.hid (fun (w1 : World) (hb : Below w.heap.size w w1) => Header_any (hT.below hb) b (by omega))
    have F2 := Lib.hid (fun (w1 : World) => watchfireref29_Header.calls _ _ _ w1 (Header_f b (by omega)))
    have F3 := Lib.hid (fun (w1 : World) => Escape_any w1 b (by omega))
    have F4 := Lib.hid (fun (w1 : World) => watchfireref29_Escape.calls _ _ _ w1 (Escape_f b (by omega)))
    have F5 := Lib.hid (fun (w1 : World) => Cut_any w1 b (by omega) most)
    have F6 := Lib.hid (fun (w1 : World) => cutr_any w1 b (by omega) most)
    obtain ⟨H, hH⟩ : ∃ H, str (headM b) = H := ⟨_, rfl⟩
    obtain ⟨E, hE⟩ : ∃ E, str (escM b) = E := ⟨_, rfl⟩
    obtain ⟨C, hC⟩ : ∃ C, str (cutM b most) = C := ⟨_, rfl⟩
    rw [hH] at F1 F2
    rw [hE] at F3 F4
    rw [hC] at F5 F6
    have e1 : (H.toList == H.toList) = true := beq_self_eq_true _
    have e2 : (E.toList == E.toList) = true := beq_self_eq_true _
    have e3 : (C.toList == C.toList) = true := beq_self_eq_true _
    obtain ⟨S, hS⟩ : ∃ S, str b = S := ⟨_, rfl⟩
    rw [hS] at F1 F2 F3 F4 F5 F6 hz ⊢
    clear hH hE hC hS
    have F1' := Lib.hid (F1.out w (Below.refl _ _))
    go_enter Tryz.func9, Tryz.ntmps9
    go_wp2_with fail
    refine F1'.out.mono ?_
    rintro e w2 ⟨rfl, hb2⟩
    have HB2 := Lib.hid hb2
    have F2' := Lib.hid (F2.out w2)
    clear hb2
    go_wp2_with fail
    refine F2'.out.mono ?_
    rintro e w3 ⟨rfl, hd3⟩
    have HB3 := Lib.hid (HB2.out.trans (hd3.below.mono HB2.out.size))
    have F3' := Lib.hid (F3.out w3)
    clear hd3
    go_wp2_with fail
    refine F3'.out.mono ?_
    rintro e w4 ⟨rfl, hb4⟩
    have HB4 := Lib.hid (HB3.out.trans (hb4.mono HB3.out.size))
    have F4' := Lib.hid (F4.out w4)
    clear hb4
    go_wp2_with fail
    refine F4'.out.mono ?_
    rintro e w5 ⟨rfl, hd5⟩
    have HB5 := Lib.hid (HB4.out.trans (hd5.below.mono HB4.out.size))
    have F5' := Lib.hid (F5.out w5)
    have F6' := Lib.hid (F6.out w5)
    have HA := Lib.hid (HAw.out w5 HB5.out)
    clear hd5
    go_wp2_with (first | (go_at_call 28; (refine F5'.out.mono ?_); rintro e w6 ⟨rfl, rfl⟩) | (go_at_call 29; (refine F6'.out.mono ?_); rintro e w7 ⟨rfl, rfl⟩) | (go_at_call 20; (refine HA.out.mono ?_); rintro e w8 ⟨rfl, hb8⟩))
    go_ret
    exact ⟨rfl, HB5.out.trans (hb8.mono HB5.out.size)⟩
theorem payloadTexts_holds0 {w : World} (hT : Tabs w) (s : ByteArray) (_ : s.size ≤ maxLen) (i : Int) (hi : (Lit.int .i64 i).wf = true) :
    Calls Tryz.prog 9 #[.string s, .int .i64 i] w fun e w' => e = .returned (.bool true) ∧ Below w.heap.size w w' := by
  have h := texts_holds1 hT (bts s) i
  rw [str_bts] at h
  exact h
end Go.Proofs.YtllhpkpckjacfaaGreatDoor
