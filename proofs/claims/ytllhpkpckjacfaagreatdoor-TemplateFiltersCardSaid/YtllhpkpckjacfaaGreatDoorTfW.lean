/- TemplateFilters walked. -/
import Derived.Test.YtllhpkpckjacfaaGreatDoorTrG
import Derived.Test.YtllhpkpckjacfaaGreatDoorTuA
namespace Go.Proofs.YtllhpkpckjacfaaGreatDoor
open Go.RowKit Go.Proofs.YtllhpkpckjacfaaGreatDoorW.PrintWords PTemplateFilters
set_option linter.unusedVariables false
set_option linter.unusedSimpArgs false

theorem map_str_bts (xs : List ByteArray) : (xs.map bts).map str = xs := by
  rw [List.map_map]
  exact (List.map_congr_left (fun x _ => str_bts x)).trans (List.map_id _)
set_option maxRecDepth 100000 in
set_option maxHeartbeats 800000 in
theorem templateFilters_holds0 {w : World} (hT : Tabs w) (s : ByteArray) (_ : s.size ≤ maxLen) (A : Option Addr) (c : Nat) (xs : List ByteArray) (hC : Kd.C Kd.string w A xs.length xs) (hc : xs.length ≤ c) (hok : ∀ x ∈ xs, x.size ≤ maxLen) :
    Calls Tryz.prog 3 #[.string s, .slice A xs.length c] w fun e w' => e = .returned (.bool true) ∧ Below w.heap.size w w' := by
  have hmx := hC.2.1
  have HAw : Hid (∀ w1, Below w.heap.size w w1 → Calls Tryz.prog 13 #[] w1 fun e w' => e = .returned (.bool true) ∧ Below w1.heap.size w1 w') := Lib.hid (fun w1 hb => awake_any (hT.below hb))
  have HA := Lib.hid (HAw.out w (Below.refl _ _))
  by_cases h3 : 3000 < s.size
  · have h3i : (3000 : Int) < (s.size : Int) := by omega
    have h3j : decide ((s.size : Int) > 3000) = true := decide_eq_true h3i
    go_enter Tryz.func3, Tryz.ntmps3
    go_wp2_with (first | (go_at_call 13; (refine HA.out.mono ?_); rintro e w2 ⟨rfl, hb2⟩))
    go_ret
    exact ⟨rfl, hb2⟩
  · have h3i : ¬ (3000 : Int) < (s.size : Int) := by omega
    have h3j : decide ((s.size : Int) > 3000) = false := decide_eq_false h3i
    by_cases h4 : 10 < xs.length
    · have h4i : (10 : Int) < (xs.length : Int) := by omega
      go_enter Tryz.func3, Tryz.ntmps3
      go_wp2_with (first | (go_at_call 13; (refine HA.out.mono ?_); rintro e w2 ⟨rfl, hb2⟩))
      go_ret
      exact ⟨rfl, hb2⟩
    · have h4i : ¬ (10 : Int) < (xs.length : Int) := by omega
      have hlen : (bts s).length = s.size := bts_len s
      have hS : SsK (fun _ => True) w (.slice A xs.length c) (xs.map bts) := by
        have h := SsK.ofC (ok := fun _ => True) (l := xs.map bts) (A := A) (c := c) (w := w) (by rw [List.length_map]; exact hc) (by rw [List.length_map, map_str_bts]; exact hC) (fun _ _ => trivial)
        rw [List.length_map] at h
        exact h
      have hm : ∀ b ∈ xs.map bts, b.length ≤ maxLen := by
        intro b hb
        obtain ⟨x, hx, rfl⟩ := List.mem_map.1 hb
        rw [bts_len]
        exact hok x hx
      have h1 := Filter_any hT hS.ss hm (bts s) (by omega)
      have hF := Filter_f (bts s) (by omega) (xs.map bts) (k := 2 * (bts s).length + 20) (Nat.le_refl _)
      rw [str_bts, map_str_bts] at hF
      obtain ⟨r, hr⟩ : ∃ r, filterM (bts s) (xs.map bts) = r := ⟨_, rfl⟩
      rw [hr] at h1 hF
      rw [str_bts] at h1
      have HF1 := Lib.hid h1
      have HF2 : Hid (∀ w1, Below w.heap.size w w1 → Calls Tryz.prog 15 #[.string s, .slice A xs.length c] w1 fun e w' => e = .returned (.tuple #[.string (str r.1), .int .i64 (r.2 : Int)]) ∧ Below w1.heap.size w1 w') := Lib.hid (fun w1 hb => watchfireref28_Filter.calls _ s A c xs (str r.1) (r.2 : Int) w1 (Kd.C_below hC hb) hc hF)
      have hse : ((str r.1).toList == (str r.1).toList) = true := beq_self_eq_true _
      clear h1 hF hr hS hm HA hC
      go_enter Tryz.func3, Tryz.ntmps3
      go_wp2_with (first | (go_at_call 14; (refine HF1.out.mono ?_); rintro e w2 ⟨rfl, hb2⟩; have HB2 := Lib.hid hb2; clear hb2) | (go_at_call 15; (refine (HF2.out w2 HB2.out).mono ?_); rintro e w3 ⟨rfl, hb3⟩; have HB3 := Lib.hid (HB2.out.trans (hb3.mono HB2.out.size)); clear hb3) | (go_at_call 13; (refine (HAw.out w3 HB3.out).mono ?_); rintro e w4 ⟨rfl, hb4⟩))
      go_ret
      exact ⟨rfl, HB3.out.trans (hb4.mono HB3.out.size)⟩
end Go.Proofs.YtllhpkpckjacfaaGreatDoor
