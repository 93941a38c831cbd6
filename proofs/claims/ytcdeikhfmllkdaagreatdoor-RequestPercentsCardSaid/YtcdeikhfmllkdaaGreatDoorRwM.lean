/- RequestPercents, walked. -/
import Derived.Test.YtcdeikhfmllkdaaGreatDoorRwL
namespace Go.Proofs.YtcdeikhfmllkdaaGreatDoor
open Go.RowKit
set_option linter.unusedVariables false
set_option linter.unusedSimpArgs false
set_option maxRecDepth 100000 in
set_option maxHeartbeats 4000000 in
theorem percents_holds1 {w : World} (hT : Tabs w) (hI : TabI w) (s t : Bytes) : Calls Tryz.prog 5 #[.string (str s), .string (str t)] w fun e w' => e = .returned (.bool true) ∧ Below w.heap.size w w' := by
  have hz := str_size s
  have hzt := str_size t
  have HAw : Hid (∀ w1, Below w.heap.size w w1 → Calls Tryz.prog 11 #[] w1 fun e w' => e = .returned (.bool true) ∧ Below w1.heap.size w1 w') := Lib.hid (fun w1 hb => awake_any (tabs_bel hT hb) (hI.below hb))
  clear hT hI
  by_cases h3 : 3000 < s.length
  · have h3i : decide ((3000 : Int) < (s.length : Int)) = true := decide_eq_true (by omega)
    have HA := Lib.hid (HAw.out w (Below.refl _ _))
    go_enter Tryz.func5, Tryz.ntmps5
    go_wp2_with (first | (go_at_call 11; (refine HA.out.mono ?_); rintro e w2 ⟨rfl, hb2⟩))
    go_ret
    exact ⟨rfl, hb2⟩
  have h3i : decide ((3000 : Int) < (s.length : Int)) = false := decide_eq_false (by omega)
  by_cases h4 : 3000 < t.length
  · have h4i : decide ((3000 : Int) < (t.length : Int)) = true := decide_eq_true (by omega)
    have HA := Lib.hid (HAw.out w (Below.refl _ _))
    go_enter Tryz.func5, Tryz.ntmps5
    go_wp2_with (first | (go_at_call 11; (refine HA.out.mono ?_); rintro e w2 ⟨rfl, hb2⟩))
    go_ret
    exact ⟨rfl, hb2⟩
  have h4i : decide ((3000 : Int) < (t.length : Int)) = false := decide_eq_false (by omega)
  have F1 := Lib.hid (fun (w1 : World) => Unpercent_any w1 t (by omega))
  have F2 := Lib.hid (fun (w1 : World) => rUnpercent_any w1 t (by omega))
  have F3 := Lib.hid (fun (w1 : World) => Percent_any w1 s (by omega))
  have F4 := Lib.hid (fun (w1 : World) => rPercent_any w1 s (by omega))
  obtain ⟨Q, hQ⟩ : ∃ Q, str (percM s) = Q := ⟨_, rfl⟩
  obtain ⟨U, hU⟩ : ∃ U, str (unpR t).1 = U := ⟨_, rfl⟩
  obtain ⟨n, hn⟩ : ∃ n, (unpR t).2 = n := ⟨_, rfl⟩
  rw [hQ] at F3 F4
  rw [hU, hn] at F1 F2
  have e1 : (Q.toList == Q.toList) = true := beq_self_eq_true _
  have e2 : (U.toList == U.toList) = true := beq_self_eq_true _
  have e3 : ((n : Int) == (n : Int)) = true := beq_self_eq_true _
  obtain ⟨S, hS⟩ : ∃ S, str s = S := ⟨_, rfl⟩
  obtain ⟨T, hT⟩ : ∃ S, str t = S := ⟨_, rfl⟩
  rw [hS] at F3 F4 hz ⊢
  rw [hT] at F1 F2 hzt ⊢
  clear hQ hU hn hS hT
  go_enter Tryz.func5, Tryz.ntmps5
  go_wp2_with (first
    | (go_at_call 21; refine (F1.out _).mono ?_; rintro e w2 ⟨rfl, hb2⟩; have H2 := Lib.hid hb2; clear hb2)
    | (go_at_call 22; refine (F2.out _).mono ?_; rintro e w3 ⟨rfl, hb3⟩; have H3 := Lib.hid (H2.out.trans (hb3.mono H2.out.size)); clear hb3)
    | (go_at_call 23; refine (F3.out _).mono ?_; rintro e w4 ⟨rfl, hb4⟩; have H4 := Lib.hid (H3.out.trans (hb4.mono H3.out.size)); clear hb4)
    | (go_at_call 24; refine (F4.out _).mono ?_; rintro e w5 ⟨rfl, hb5⟩; have H5 := Lib.hid (H4.out.trans (hb5.mono H4.out.size)); clear hb5)
    | (go_at_call 11; refine (HAw.out _ H5.out).mono ?_; rintro e w6 ⟨rfl, hb6⟩; have H6 := Lib.hid (H5.out.trans (hb6.mono H5.out.size)); clear hb6))
  go_ret
  exact ⟨rfl, H6.out⟩
theorem requestPercents_holds0 {w : World} (hT : Tabs w) (hI : TabI w) (s : ByteArray) (_ : s.size ≤ maxLen) (t : ByteArray) (_ : t.size ≤ maxLen) : Calls Tryz.prog 5 #[.string s, .string t] w fun e w' => e = .returned (.bool true) ∧ Below w.heap.size w w' := by
  have h := percents_holds1 hT hI s.data.toList t.data.toList
  rw [str_of, str_of] at h
  exact h
end Go.Proofs.YtcdeikhfmllkdaaGreatDoor
