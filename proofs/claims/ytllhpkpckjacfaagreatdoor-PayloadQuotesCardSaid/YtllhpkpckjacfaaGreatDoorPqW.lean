/- PayloadQuotes, walked. -/
import Derived.Test.YtllhpkpckjacfaaGreatDoorUqW
import Derived.Test.YtllhpkpckjacfaaGreatDoorPm4
namespace Go.Proofs.YtllhpkpckjacfaaGreatDoor
open Go.RowKit Go.Proofs.YtllhpkpckjacfaaGreatDoorW.PrintWords PTemplateFilters
set_option linter.unusedVariables false
set_option linter.unusedSimpArgs false

set_option maxRecDepth 100000 in
set_option maxHeartbeats 1600000 in
theorem quotes_holds1 {w : World} (hT : Tabs w) (b t : Bytes) : Calls Tryz.prog 11 #[.string (str b), .string (str t)] w fun e w' => e = .returned (.bool true) ∧ Below w.heap.size w w' := by
  have hz := str_size b
  have hzt := str_size t
  have HAw : Hid (∀ w1, Below w.heap.size w w1 → Calls Tryz.prog 20 #[] w1 fun e w' => e = .returned (.bool true) ∧ Below w1.heap.size w1 w') := Lib.hid (fun w1 hb => awake29_any (hT.below hb))
  by_cases h3 : 2000 < b.length
  · have h3i : decide ((2000 : Int) < (b.length : Int)) = true := decide_eq_true (by omega)
    have HA := Lib.hid (HAw.out w (Below.refl _ _))
    go_enter Tryz.func11, Tryz.ntmps11
    go_wp2_with (first | (go_at_call 20; (refine HA.out.mono ?_); rintro e w2 ⟨rfl, hb2⟩))
    go_ret
    exact ⟨rfl, hb2⟩
  have h3i : decide ((2000 : Int) < (b.length : Int)) = false := decide_eq_false (by omega)
  by_cases h4 : 2000 < t.length
  · have h4i : decide ((2000 : Int) < (t.length : Int)) = true := decide_eq_true (by omega)
    have HA := Lib.hid (HAw.out w (Below.refl _ _))
    go_enter Tryz.func11, Tryz.ntmps11
    go_wp2_with (first | (go_at_call 20; (refine HA.out.mono ?_); rintro e w2 ⟨rfl, hb2⟩))
    go_ret
    exact ⟨rfl, hb2⟩
  have h4i : decide ((2000 : Int) < (t.length : Int)) = false := decide_eq_false (by omega)
  have F1 := Lib.hid (Unquoted_any w t (by omega))
  have F2 := Lib.hid (fun (w1 : World) => watchfireref29_Unquoted.calls _ _ _ _ w1 (Unquoted_f t (by omega)))
  have F3 := Lib.hid (fun (w1 : World) => Quoted_any w1 b (by omega))
  have F4 := Lib.hid (fun (w1 : World) => watchfireref29_Quoted.calls _ _ _ w1 (Quoted_f b (by omega) (Nat.le_refl _)))
  obtain ⟨Q, hQ⟩ : ∃ Q, str (quotM b 0) = Q := ⟨_, rfl⟩
  obtain ⟨U, hU⟩ : ∃ U, str (unqR t).1 = U := ⟨_, rfl⟩
  obtain ⟨n, hn⟩ : ∃ n, (unqR t).2 = n := ⟨_, rfl⟩
  rw [hQ] at F3 F4
  rw [hU, hn] at F1 F2
  have e1 : (Q.toList == Q.toList) = true := beq_self_eq_true _
  have e2 : (U.toList == U.toList) = true := beq_self_eq_true _
  have hnn : n ≤ 4 := by rw [← hn]; unfold unqR; split <;> simp
  have hcv : IntKind.i64.wrap (n : Int) = (n : Int) := by rw [IntKind.wrap_i64]; omega
  have e3 : ((n : Int) == (n : Int)) = true := beq_self_eq_true _
  obtain ⟨S, hS⟩ : ∃ S, str b = S := ⟨_, rfl⟩
  obtain ⟨T, hTT⟩ : ∃ T, str t = T := ⟨_, rfl⟩
  rw [hS] at F3 F4 hz ⊢
  rw [hTT] at F1 F2 hzt ⊢
  clear hQ hU hn hS hTT
  go_enter Tryz.func11, Tryz.ntmps11
  go_wp2_with fail
  refine F1.out.mono ?_
  rintro e w2 ⟨rfl, hb2⟩
  have HB2 := Lib.hid hb2
  have F2' := Lib.hid (F2.out w2)
  clear hb2
  go_wp2_with fail
  refine F2'.out.mono ?_
  rintro e w3 ⟨rfl, hd3⟩
  have HB3 := Lib.hid (HB2.out.trans (hd3.mono HB2.out.size))
  have F3' := Lib.hid (F3.out w3)
  clear hd3
  go_wp2_with fail
  refine F3'.out.mono ?_
  rintro e w4 ⟨rfl, hb4⟩
  have HB4 := Lib.hid (HB3.out.trans (hb4.mono HB3.out.size))
  have F4' := Lib.hid (F4.out w4)
  clear hb4
  go_wp2_with fail
  refine F4'.out.mono ?_
  rintro e w5 ⟨rfl, hd5⟩
  have HB5 := Lib.hid (HB4.out.trans (hd5.below.mono HB4.out.size))
  have HA := Lib.hid (HAw.out w5 HB5.out)
  clear hd5
  go_wp2_with (first | (go_at_call 20; (refine HA.out.mono ?_); rintro e w8 ⟨rfl, hb8⟩))
  go_ret
  exact ⟨rfl, HB5.out.trans (hb8.mono HB5.out.size)⟩
theorem payloadQuotes_holds0 {w : World} (hT : Tabs w) (s : ByteArray) (_ : s.size ≤ maxLen) (t : ByteArray) (_ : t.size ≤ maxLen) :
    Calls Tryz.prog 11 #[.string s, .string t] w fun e w' => e = .returned (.bool true) ∧ Below w.heap.size w w' := by
  have h := quotes_holds1 hT (bts s) (bts t)
  rw [str_bts, str_bts] at h
  exact h
end Go.Proofs.YtllhpkpckjacfaaGreatDoor
