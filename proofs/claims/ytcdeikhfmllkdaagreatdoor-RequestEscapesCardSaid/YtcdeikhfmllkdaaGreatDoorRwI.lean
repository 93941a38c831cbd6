/- RequestEscapes, walked. -/
import Derived.Test.YtcdeikhfmllkdaaGreatDoorRwH
namespace Go.Proofs.YtcdeikhfmllkdaaGreatDoor
open Go.RowKit
set_option linter.unusedVariables false
set_option linter.unusedSimpArgs false
theorem part_ne {c : UInt8} (h : partB c = false) : ((c.toNat : Int) == 38) = false ∧ ((c.toNat : Int) == 61) = false ∧ ((c.toNat : Int) == 63) = false ∧ ((c.toNat : Int) == 47) = false ∧ ((c.toNat : Int) == 32) = false ∧ ((c.toNat : Int) == 10) = false := by
  simp only [partB, Bool.or_eq_false_iff, beq_eq_false_iff_ne] at h
  obtain ⟨⟨⟨⟨⟨h1, h2⟩, h3⟩, h4⟩, h5⟩, h6⟩ := h
  refine ⟨?_, ?_, ?_, ?_, ?_, ?_⟩ <;> rw [beq_eq_false_iff_ne] <;> omega
set_option maxRecDepth 100000 in
set_option maxHeartbeats 4000000 in
theorem escapes_holds1 {w : World} (hT : Tabs w) (hI : TabI w) (s : Bytes) : Calls Tryz.prog 7 #[.string (str s)] w fun e w' => e = .returned (.bool true) ∧ Below w.heap.size w w' := by
  have hz := str_size s
  have HAw : Hid (∀ w1, Below w.heap.size w w1 → Calls Tryz.prog 11 #[] w1 fun e w' => e = .returned (.bool true) ∧ Below w1.heap.size w1 w') := Lib.hid (fun w1 hb => awake_any (tabs_bel hT hb) (hI.below hb))
  clear hT hI
  by_cases h3 : 3000 < s.length
  · have h3i : decide ((3000 : Int) < (s.length : Int)) = true := decide_eq_true (by omega)
    have HA := Lib.hid (HAw.out w (Below.refl _ _))
    go_enter Tryz.func7, Tryz.ntmps7
    go_wp2_with (first | (go_at_call 11; (refine HA.out.mono ?_); rintro e w2 ⟨rfl, hb2⟩))
    go_ret
    exact ⟨rfl, hb2⟩
  have h3i : decide ((3000 : Int) < (s.length : Int)) = false := decide_eq_false (by omega)
  have hpl := percM_len s
  have F1 := Lib.hid (fun (w1 : World) => Percent_any w1 s (by omega))
  have F2 : Hid (∀ w1 : World, Calls Tryz.prog 21 #[.string (str (percM s))] w1 fun e w' => e = .returned (.tuple #[.string (str s), .int .i64 0]) ∧ Below w1.heap.size w1 w') := Lib.hid (fun w1 => by
    have := Unpercent_any w1 (percM s) (by omega)
    rw [unpR_perc] at this
    exact this)
  have hzp := str_size (percM s)
  obtain ⟨S, hS⟩ : ∃ S, str s = S := ⟨_, rfl⟩
  obtain ⟨P, hP⟩ : ∃ P, str (percM s) = P := ⟨_, rfl⟩
  have HGet : Hid (∀ n (hn2 : n < P.size), partB (P[n]'hn2) = false) := by
    subst hP
    refine Lib.hid (fun n hn2 => ?_)
    have hn : n < (percM s).length := by rw [← str_size]; exact hn2
    rw [str_get _ _ hn hn2]
    exact perc_part s _ (List.getElem_mem hn)
  rw [hS] at F1 F2 hz ⊢
  rw [hP] at F1 F2 hzp
  obtain ⟨m, hm⟩ : ∃ m, (percM s).length = m := ⟨_, rfl⟩
  rw [hm] at hzp hpl
  have e1 : (S.toList == S.toList) = true := beq_self_eq_true _
  have hge : decide ((s.length : Int) ≤ (m : Int)) = true := decide_eq_true (by omega)
  clear hS hP hm
  go_enter Tryz.func7, Tryz.ntmps7
  go_wp2_with (first | (go_at_call 23; (refine (F1.out _).mono ?_); rintro e w2 ⟨rfl, hb2⟩; have HB2 := Lib.hid hb2; clear hb2))
  go_loopw [4] (fun v wr => ∃ n : Nat, v = .int .i64 n ∧ n ≤ m ∧ wr = w2) (fun v _ => m - (intOf v).toNat)
  case atStart => exact ⟨0, rfl, by omega, rfl⟩
  case round =>
    obtain ⟨n, rfl, hn, rfl⟩ := hrel
    by_cases hlt : n < m
    · have hn2 : n < P.size := by omega
      obtain ⟨c, hc⟩ : ∃ c, P[n]'hn2 = c := ⟨_, rfl⟩
      obtain ⟨p1, p2, p3, p4, p5, p6⟩ := part_ne (hc ▸ HGet.out n hn2)
      have hc256 := c.toNat_lt
      go_wp2_with fail
      go_roundw
      case measure => simp [intOf]; omega
      case rel => exact ⟨n + 1, by go_num, by omega, trivial⟩
    · obtain rfl : n = m := by omega
      go_wp2_with (first
        | (go_at_call 21; (refine (F2.out _).mono ?_); rintro e w3 ⟨rfl, hb3⟩; have HB3 := Lib.hid (HB2.out.trans (hb3.mono HB2.out.size)); clear hb3)
        | (go_at_call 11; (refine (HAw.out _ HB3.out).mono ?_); rintro e w4 ⟨rfl, hb4⟩; have HB4 := Lib.hid (HB3.out.trans (hb4.mono HB3.out.size)); clear hb4))
      go_ret
      exact ⟨rfl, HB4.out⟩
theorem requestEscapes_holds0 {w : World} (hT : Tabs w) (hI : TabI w) (s : ByteArray) (_ : s.size ≤ maxLen) : Calls Tryz.prog 7 #[.string s] w fun e w' => e = .returned (.bool true) ∧ Below w.heap.size w w' := by
  have h := escapes_holds1 hT hI s.data.toList
  rw [str_of] at h
  exact h
end Go.Proofs.YtcdeikhfmllkdaaGreatDoor
