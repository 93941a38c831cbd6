/- ref32: Percent. -/
import Derived.Test.YtcdeikhfmllkdaaGreatDoorRwJ
namespace Go.Proofs.YtcdeikhfmllkdaaGreatDoor
open Go.RowKit
set_option linter.unusedVariables false
set_option linter.unusedSimpArgs false
theorem str_add (a b : Bytes) : str a ++ str b = str (a ++ b) := by
  have h : (str a ++ str b).data.toList = (str (a ++ b)).data.toList := by simp [str]
  rw [← str_of (str a ++ str b), h, str_of]
theorem ext_one {s : Bytes} {n : Nat} (h : n < s.length) : (str s).extract n (n + 1) = str [s[n]] := by
  have e : ((str s).extract n (n + 1)).data.toList = [s[n]] := by
    rw [ByteArray.data_extract, Array.toList_extract, str_toList]
    show (s.drop n).take (n + 1 - n) = [s[n]]
    rw [List.drop_eq_getElem_cons h, Nat.add_sub_cancel_left]
    rfl
  rw [← str_of ((str s).extract n (n + 1)), e]
theorem one_run {S : ByteArray} {s : Bytes} {k k' : IntKind} {n : Nat} (hS : S = str s) (h : n < s.length) (w : World) : Sem.run Tryz.prog (Instr.slice 9 (.string S) (some (.int k (n : Int))) (some (.int k' ((n : Int) + 1))) none) w = .ok (.string (str [s[n]])) w := by
  subst hS
  have h2 := str_size s
  have h3 := run_slice_string (P := Tryz.prog) (w := w) 9 (str s) k k' (n : Int) ((n : Int) + 1) Tryz.underlying9 (by omega) (by omega) (by omega)
  rw [show ((n : Int) + 1).toNat = n + 1 by omega, Int.toNat_natCast, ext_one h] at h3
  exact h3
structure RpRel (w wr : World) (s : Bytes) (v : Value) (n : Nat) : Prop where
  le : n ≤ s.length
  out : v = .string (str ((s.take n).flatMap percB))
  same : wr = w
set_option maxHeartbeats 1600000 in
set_option maxRecDepth 100000 in
theorem rPercent_any (w : World) (s : Bytes) (hs : s.length ≤ 1000000) : Calls Tryz.prog 24 #[.string (str s)] w fun e w' => e = .returned (.string (str (percM s))) ∧ Below w.heap.size w w' := by
  have hsz := str_size s
  have HOne : Hid (∀ n (h : n < s.length) w1, Sem.run Tryz.prog (Instr.slice 9 (.string (str s)) (some (.int .i64 (n : Int))) (some (.int .i64 ((n : Int) + 1))) none) w1 = .ok (.string (str [s[n]])) w1) := Lib.hid (fun n h w1 => one_run rfl h w1)
  obtain ⟨S, hS⟩ : ∃ S, str s = S := ⟨_, rfl⟩
  rw [hS] at HOne
  have HGet : Hid (∀ n (hn : n < s.length) (hn2 : n < S.size), S[n]'hn2 = s[n]'hn) := by
    subst hS; exact Lib.hid (fun n hn hn2 => str_get s n hn hn2)
  rw [hS] at hsz ⊢
  clear hS
  go_enter Tryz.func24, Tryz.ntmps24
  go_wp2_with fail
  go_loopw [3, 4] (fun v3 v4 wr => ∃ n : Nat, v4 = .int .i64 n ∧ n ≤ s.length ∧ v3 = .string (str ((s.take n).flatMap percB)) ∧ Below w.heap.size w wr) (fun _ v4 _ => s.length - (intOf v4).toNat)
  case atStart => exact ⟨0, rfl, by omega, rfl, Below.refl _ _⟩
  case round =>
    obtain ⟨n, rfl, hn, rfl, hb⟩ := hrel
    have HB := Lib.hid hb
    clear hb
    obtain ⟨O, hO⟩ : ∃ O, str ((s.take n).flatMap percB) = O := ⟨_, rfl⟩
    have HO := Lib.hid hO
    have hOs : O.size ≤ 3 * s.length := by rw [← hO, str_size]; exact fl_len percB_len s n
    rw [hO]
    clear hO
    by_cases hlt : n < s.length
    · obtain ⟨c, hc⟩ : ∃ c, s[n] = c := ⟨_, rfl⟩
      have hn2 : n < S.size := by omega
      have hsc := (HGet.out n hlt hn2).trans hc
      have HSC := Lib.hid hc
      clear hc
      have HF := Lib.hid (rfree_any c wr)
      by_cases hf : freeB c = true
      · rw [hf] at HF
        have HQ := Lib.hid (percB_free hf)
        clear hf
        have hx1 := HOne.out n hlt
        rw [HSC.out] at hx1
        have hadd : O ++ str [c] = str ((s.take n).flatMap percB ++ [c]) := by rw [← HO.out, str_add]
        have hC1 : (str [c]).size = 1 := rfl
        generalize str [c] = C1 at hx1 hadd hC1
        have hno : ¬ (9223372036854775807 < O.size + C1.size) := by omega
        have HAdd := Lib.hid hadd
        clear hadd
        go_wp2_with (first | (go_at_call 70; (refine HF.out.mono ?_); rintro e w2 ⟨rfl, rfl⟩))
        refine ⟨⟨n + 1, by go_num, by omega, ?_, HB.out⟩, by simp [intOf]; omega⟩
        rw [HAdd.out, List.take_succ_eq_append_getElem hlt, List.flatMap_append, HSC.out]
        simp [HQ.out]
      · have HQ := Lib.hid (percB_pct hf)
        have hf' : freeB c = false := by simpa using hf
        rw [hf'] at HF
        clear hf hf'
        have hx := hi_HEX c
        have hc256 := c.toNat_lt
        have d1 : (c.toNat / 16) < HEXDs.length := hx
        have d2 : (c.toNat % 16) < HEXDs.length := by show c.toNat % 16 < 16; omega
        have y1 : ∀ w1, Sem.run Tryz.prog (Instr.slice 9 (.string ⟨#[48, 49, 50, 51, 52, 53, 54, 55, 56, 57, 65, 66, 67, 68, 69, 70]⟩) (some (.int .u8 ((c.toNat : Int) / 16))) (some (.int .u8 ((c.toNat : Int) / 16 + 1))) none) w1 = .ok (.string (str [HEXDs[c.toNat / 16]])) w1 := fun w1 => by
          rw [show ((c.toNat : Int) / 16) = ((c.toNat / 16 : Nat) : Int) by omega]
          exact one_run rfl d1 w1
        have y2 : ∀ w1, Sem.run Tryz.prog (Instr.slice 9 (.string ⟨#[48, 49, 50, 51, 52, 53, 54, 55, 56, 57, 65, 66, 67, 68, 69, 70]⟩) (some (.int .u8 ((c.toNat : Int) % 16))) (some (.int .u8 ((c.toNat : Int) % 16 + 1))) none) w1 = .ok (.string (str [HEXDs[c.toNat % 16]])) w1 := fun w1 => by
          rw [show ((c.toNat : Int) % 16) = ((c.toNat % 16 : Nat) : Int) by omega]
          exact one_run rfl d2 w1
        have hadd : ((O ++ ⟨#[37]⟩) ++ str [HEXDs[c.toNat / 16]]) ++ str [HEXDs[c.toNat % 16]] = str ((s.take n).flatMap percB ++ percB c) := by
          rw [← HO.out, show (⟨#[37]⟩ : ByteArray) = str [37] from rfl, str_add, str_add, str_add, HQ.out]
          simp [List.getD_eq_getElem?_getD, List.getElem?_eq_getElem d1, List.getElem?_eq_getElem d2]
        have hC1 : (str [HEXDs[c.toNat / 16]]).size = 1 := rfl
        have hC2 : (str [HEXDs[c.toNat % 16]]).size = 1 := rfl
        generalize str [HEXDs[c.toNat / 16]] = C1 at y1 hadd hC1
        generalize str [HEXDs[c.toNat % 16]] = C2 at y2 hadd hC2
        have z1 : (O ++ ⟨#[37]⟩).size = O.size + 1 := by simp [ByteArray.size_append]; rfl
        have z2 : (O ++ ⟨#[37]⟩ ++ C1).size = O.size + 2 := by rw [ByteArray.size_append, z1, hC1]
        have n1 : ¬ (9223372036854775807 < O.size + 1) := by omega
        have n2 : ¬ (9223372036854775807 < (O ++ ⟨#[37]⟩).size + C1.size) := by omega
        have n3 : ¬ (9223372036854775807 < (O ++ ⟨#[37]⟩ ++ C1).size + C2.size) := by omega
        have HAdd := Lib.hid hadd
        clear hadd
        go_upto_region 7 with (first | (go_at_call 70; (refine HF.out.mono ?_); rintro e w2 ⟨rfl, rfl⟩))
        go_region
        go_wp2_with fail
        refine ⟨⟨n + 1, by go_num, by omega, ?_, Below.drew HB.out⟩, by simp [intOf]; omega⟩
        rw [HAdd.out, List.take_succ_eq_append_getElem hlt, List.flatMap_append, HSC.out]
        simp
    · have hn : n = s.length := by omega
      subst hn
      rw [List.take_length] at HO
      go_wp2
      go_ret
      exact ⟨by rw [← HO.out]; rfl, HB.out⟩
end Go.Proofs.YtcdeikhfmllkdaaGreatDoor
