/- TemplateTwice walked. -/
import Derived.Test.YtllhpkpckjacfaaGreatDoorTrG
namespace Go.Proofs.YtllhpkpckjacfaaGreatDoor
open Go.RowKit Go.Proofs.YtllhpkpckjacfaaGreatDoorW.PrintWords PTemplateFilters
set_option linter.unusedVariables false
set_option linter.unusedSimpArgs false

/-- One word, two words, in a block of their own. -/
theorem ss_one (w : World) (a : Bytes) : Ss (w.alloc (.cells #[.string (str a)] 9)) (.slice (some ⟨w.heap.size, 0, none⟩) 1 1) [a] :=
  ⟨⟨_, 1, rfl, Nat.le_refl _⟩, fun j s hj => by
    have h0 : j = 0 := by have := (List.getElem?_eq_some_iff.1 hj).1; simp at this; omega
    subst h0
    simp at hj
    subst hj
    exact ⟨_, 1, 1, rfl, by rw [Addr.add_zero']; exact (blk_cell (heap_alloc_new w _) 0).trans rfl⟩⟩
theorem ss_two (w : World) (a b : Bytes) : Ss (w.alloc (.cells #[.string (str a), .string (str b)] 9)) (.slice (some ⟨w.heap.size, 0, none⟩) 2 2) [a, b] :=
  ⟨⟨_, 2, rfl, Nat.le_refl _⟩, fun j s hj => by
    have hlt := (List.getElem?_eq_some_iff.1 hj).1
    simp only [List.length_cons, List.length_nil] at hlt
    rcases (by omega : j = 0 ∨ j = 1) with rfl | rfl
    · simp at hj
      subst hj
      exact ⟨_, 2, 2, rfl, by rw [Addr.add_zero']; exact (blk_cell (heap_alloc_new w _) 0).trans rfl⟩
    · simp at hj
      subst hj
      refine ⟨_, 2, 2, rfl, ?_⟩
      rw [show (⟨w.heap.size, 0, none⟩ : Addr).add 1 = ⟨w.heap.size, 1, none⟩ from add_plain _ _]
      exact (blk_cell (heap_alloc_new w _) 1).trans rfl⟩
theorem filt_call {w : World} (hT : Tabs w) {V : Value} {l : List Bytes} (h : Ss w V l) (hm : ∀ b ∈ l, b.length ≤ maxLen) (s : Bytes) (hs : s.length ≤ 3000) {a : Bytes} (hf : filterM s l = (a, 0)) :
    Calls Tryz.prog 14 #[.string (str s), V] w fun e w' => e = .returned (.tuple #[.string (str a), .int .i64 0]) ∧ Below w.heap.size w w' := by
  have := Filter_any hT h hm s (by omega)
  rw [hf] at this
  exact this
theorem u8_all (P : UInt8 → Prop) (h : ∀ n, n < 256 → P (UInt8.ofNat n)) (c : UInt8) : P c := by
  have := h c.toNat c.toNat_lt
  rwa [UInt8.ofNat_toNat] at this
theorem up_up (c : UInt8) : turnB 97 65 (turnB 97 65 c) = turnB 97 65 c := u8_all (fun c => turnB 97 65 (turnB 97 65 c) = turnB 97 65 c) (by decide +kernel) c
theorem up_low (c : UInt8) : turnB 65 97 (turnB 97 65 c) = turnB 65 97 c := u8_all (fun c => turnB 65 97 (turnB 97 65 c) = turnB 65 97 c) (by decide +kernel) c
theorem turn_len (f t : Nat) (s : Bytes) : (turnM f t s).length = s.length := by simp [turnM]
theorem turn_up_up (s : Bytes) : turnM 97 65 (turnM 97 65 s) = turnM 97 65 s := by
  unfold turnM
  rw [List.map_map]
  exact List.map_congr_left (fun c _ => up_up c)
theorem turn_up_low (s : Bytes) : turnM 65 97 (turnM 97 65 s) = turnM 65 97 s := by
  unfold turnM
  rw [List.map_map]
  exact List.map_congr_left (fun c _ => up_low c)
theorem f_up (s : Bytes) : filterM s [wUpper] = (turnM 97 65 s, 0) := rfl
theorem f_low (s : Bytes) : filterM s [wLower] = (turnM 65 97 s, 0) := rfl
theorem f_def (s : Bytes) : filterM s [wDefault, [120]] = (if s = [] then [120] else s, 0) := rfl
theorem str_take (l : Bytes) (k : Nat) : (str l).extract 0 k = str (l.take k) := by
  have h : ((str l).extract 0 k).data.toList = l.take k := by rw [Lib.extract_from_zero, str_toList]
  rw [← h, str_of]
def digB (k : Nat) : Bytes := [(48 + k).toUInt8]
theorem f_lim (s : Bytes) {k : Nat} (hk : k < 10) : filterM s [wLimit, digB k] = (s.take k, 0) := by
  have h : ∀ k, k < 10 → filtersM [wLimit, digB k] = true ∧ numberM (digB k) = some k := by decide +kernel
  obtain ⟨h1, h2⟩ := h k hk
  unfold filterM
  rw [if_pos h1]
  simp only [if_pos, h2, Option.getD_some]
theorem dig_extract {k : Nat} (hk : k < 10) : (⟨#[48, 49, 50, 51, 52, 53, 54, 55, 56, 57]⟩ : ByteArray).extract k (k + 1) = str (digB k) := by
  have h : ∀ k, k < 10 → ((⟨#[48, 49, 50, 51, 52, 53, 54, 55, 56, 57]⟩ : ByteArray).extract k (k + 1)).data = (str (digB k)).data := by decide +kernel
  have := h k hk
  cases hx : (⟨#[48, 49, 50, 51, 52, 53, 54, 55, 56, 57]⟩ : ByteArray).extract k (k + 1) with
  | mk d =>
    rw [hx] at this
    simp only at this
    rw [this]
set_option maxRecDepth 100000 in
set_option maxHeartbeats 1600000 in
theorem twice_holds0 {w : World} (hT : Tabs w) (b : Bytes) (n : Nat) (hn : n < 256) : Calls Tryz.prog 7 #[.string (str b), .int .u8 (n : Int)] w fun e w' => e = .returned (.bool true) ∧ Below w.heap.size w w' := by
  have hz := str_size b
  have HAw : Hid (∀ w1, Below w.heap.size w w1 → Calls Tryz.prog 13 #[] w1 fun e w' => e = .returned (.bool true) ∧ Below w1.heap.size w1 w') := Lib.hid (fun w1 hb => awake_any (hT.below hb))
  by_cases h3 : 3000 < b.length
  · have h3i : (3000 : Int) < (b.length : Int) := by omega
    have HA := Lib.hid (HAw.out w (Below.refl _ _))
    go_enter Tryz.func7, Tryz.ntmps7
    go_wp2_with (first | (go_at_call 13; (refine HA.out.mono ?_); rintro e w2 ⟨rfl, hb2⟩))
    go_ret
    exact ⟨rfl, hb2⟩
  · have h3i : ¬ (3000 : Int) < (b.length : Int) := by omega
    have hw1 : ∀ b ∈ [wUpper], b.length ≤ maxLen := by decide
    have hw2 : ∀ b ∈ [wLower], b.length ≤ maxLen := by decide
    obtain ⟨up, hup⟩ : ∃ x, turnM 97 65 b = x := ⟨_, rfl⟩
    obtain ⟨low, hlow⟩ : ∃ x, turnM 65 97 b = x := ⟨_, rfl⟩
    have hul : up.length ≤ 3000 := by rw [← hup, turn_len]; omega
    have F1 := Lib.hid (fun (w1 : World) (hb : Below w.heap.size w w1) => filt_call (hT.below (hb.alloc hb.size (.cells #[.string (str wUpper)] 9))) (ss_one w1 wUpper) hw1 b (by omega) ((f_up b).trans (by rw [hup])))
    have F2 := Lib.hid (fun (w1 : World) (hb : Below w.heap.size w w1) => filt_call (hT.below (hb.alloc hb.size (.cells #[.string (str wUpper)] 9))) (ss_one w1 wUpper) hw1 up hul (a := up) ((f_up up).trans (by rw [← hup, turn_up_up])))
    have F3 := Lib.hid (fun (w1 : World) (hb : Below w.heap.size w w1) => filt_call (hT.below (hb.alloc hb.size (.cells #[.string (str wLower)] 9))) (ss_one w1 wLower) hw2 b (by omega) ((f_low b).trans (by rw [hlow])))
    have F4 := Lib.hid (fun (w1 : World) (hb : Below w.heap.size w w1) => filt_call (hT.below (hb.alloc hb.size (.cells #[.string (str wLower)] 9))) (ss_one w1 wLower) hw2 up hul ((f_low up).trans (by rw [← hup, turn_up_low, hlow])))
    obtain ⟨k, hk⟩ : ∃ k, n % 10 = k := ⟨_, rfl⟩
    have hk10 : k < 10 := by omega
    have hw3 : ∀ b ∈ [wLimit, digB k], b.length ≤ maxLen := by intro b hb; simp only [List.mem_cons, List.not_mem_nil, or_false] at hb; rcases hb with rfl | rfl <;> (first | decide | (show 1 ≤ maxLen; decide))
    have hw4 : ∀ b ∈ [wDefault, [120]], b.length ≤ maxLen := by decide
    obtain ⟨cut, hcut⟩ : ∃ x, b.take k = x := ⟨_, rfl⟩
    obtain ⟨some1, hsome⟩ : ∃ x, (if b = [] then [120] else b : Bytes) = x := ⟨_, rfl⟩
    have F5 := Lib.hid (fun (w1 : World) (hb : Below w.heap.size w w1) => filt_call (hT.below (hb.alloc hb.size (.cells #[.string (str wLimit), .string (str (digB k))] 9))) (ss_two w1 wLimit (digB k)) hw3 b (by omega) ((f_lim b hk10).trans (by rw [hcut])))
    have F6 := Lib.hid (fun (w1 : World) (hb : Below w.heap.size w w1) => filt_call (hT.below (hb.alloc hb.size (.cells #[.string (str wDefault), .string (str [120])] 9))) (ss_two w1 wDefault [120]) hw4 b (by omega) ((f_def b).trans (by rw [hsome])))
    have hcv : IntKind.i64.wrap (n : Int) = (n : Int) := by rw [IntKind.wrap_i64]; omega
    have hrm : IntKind.i64.wrap ((n : Int).tmod 10) = (k : Int) := by rw [IntKind.wrap_i64, Int.tmod_eq_emod_of_nonneg (by omega)]; omega
    have hrm2 : (n : Int).tmod 10 = (k : Int) := by rw [Int.tmod_eq_emod_of_nonneg (by omega)]; omega
    have hkw : IntKind.i64.wrap (k : Int) = (k : Int) := by rw [IntKind.wrap_i64]; omega
    have hk1 : IntKind.i64.wrap ((k : Int) + 1) = (k : Int) + 1 := by rw [IntKind.wrap_i64]; omega
    have hk0 : (0 : Int) ≤ (k : Int) := by omega
    have hk9 : (k : Int) + 1 ≤ 10 := by omega
    have hsl : ∀ w1 : World, Sem.run Tryz.prog (Instr.slice 9 (.string ⟨#[48, 49, 50, 51, 52, 53, 54, 55, 56, 57]⟩) (some (.int .i64 (k : Int))) (some (.int .i64 ((k : Int) + 1))) none) w1 = .ok (.string (str (digB k))) w1 := by
      intro w1
      have h := run_slice_string (P := Tryz.prog) w1 9 ⟨#[48, 49, 50, 51, 52, 53, 54, 55, 56, 57]⟩ .i64 .i64 (k : Int) ((k : Int) + 1) Tryz.underlying9 (by omega) (by omega) (by show (k : Int) + 1 ≤ 10; omega)
      rw [show ((k : Int) + 1).toNat = k + 1 by omega, Int.toNat_natCast, dig_extract hk10] at h
      exact h
    have HK := Lib.hid (And.intro hcut (And.intro hsome hk10))
    clear hup hlow hcut hsome hk hk10
    go_enter Tryz.func7, Tryz.ntmps7
    go_upto_region 4 with (first | (go_at_call 14; (refine (F1.out w (Below.refl _ _)).mono ?_); rintro e w2 ⟨rfl, hb2⟩))
    have B2 := Lib.hid ((below_alloc (Below.refl w.heap.size w) _).trans (hb2.mono (by simp)))
    clear hb2
    go_upto_region 5 with (first | (go_at_call 14; (refine (F2.out w2 B2.out).mono ?_); rintro e w3 ⟨rfl, hb3⟩))
    have B3 := Lib.hid ((below_alloc B2.out _).trans (hb3.mono (by have := B2.out.size; simp; omega)))
    clear hb3
    go_upto_region 6 with (first | (go_at_call 14; (refine (F3.out w3 B3.out).mono ?_); rintro e w4 ⟨rfl, hb4⟩))
    have B4 := Lib.hid ((below_alloc B3.out _).trans (hb4.mono (by have := B3.out.size; simp; omega)))
    clear hb4
    go_upto_region 7 with (first | (go_at_call 14; (refine (F4.out w4 B4.out).mono ?_); rintro e w5 ⟨rfl, hb5⟩))
    have B5 := Lib.hid ((below_alloc B4.out _).trans (hb5.mono (by have := B4.out.size; simp; omega)))
    clear hb5
    go_upto_region 9 with (first | (go_at_call 14; (refine (F5.out w5 B5.out).mono ?_); rintro e w6 ⟨rfl, hb6⟩))
    have B6 := Lib.hid ((below_alloc B5.out _).trans (hb6.mono (by have := B5.out.size; simp; omega)))
    clear hb6
    go_upto_region 10 with (first | (go_at_call 14; (refine (F6.out w6 B6.out).mono ?_); rintro e w7 ⟨rfl, hb7⟩))
    have B7 := Lib.hid ((below_alloc B6.out _).trans (hb7.mono (by have := B6.out.size; simp; omega)))
    have HA := Lib.hid (HAw.out w7 B7.out)
    have hcl : cut.length = min k b.length := by rw [← HK.out.1, List.length_take]
    have hmn : min (k : Int) (b.length : Int) = (cut.length : Int) := by
      by_cases hkb : k ≤ b.length
      · rw [Int.min_eq_left (by omega)]; omega
      · rw [Int.min_eq_right (by omega)]; omega
    have hcb : (cut.length : Int) ≤ (b.length : Int) := by omega
    have hx2 : (str b).extract 0 cut.length = str cut := by
      have ht : b.take cut.length = cut := by
        rw [hcl, ← HK.out.1]
        by_cases hkb : k ≤ b.length
        · rw [Nat.min_eq_left hkb]
        · rw [Nat.min_eq_right (by omega), List.take_of_length_le (Nat.le_refl _), List.take_of_length_le (by omega)]
      rw [str_take, ht]
    clear hcl
    have hcz := str_size cut
    have hup2 : ((str up).toList == (str up).toList) = true := beq_self_eq_true _
    have hlow2 : ((str low).toList == (str low).toList) = true := beq_self_eq_true _
    have hcut2 : ((str cut).toList == (str cut).toList) = true := beq_self_eq_true _
    clear hb7 F1 F2 F3 F4 F5 F6
    by_cases hb0 : b = []
    · have hs1 : some1 = [120] := by rw [← HK.out.2.1, if_pos hb0]
      have hbe : ((str b).toList == []) = true := by rw [str_tl, hb0]; rfl
      have hbe2 : (str b).toList.isEmpty = true := by rw [str_tl, hb0]; rfl
      have hse : ((str some1).toList == [120]) = true := by rw [str_tl, hs1]; rfl
      clear hs1 hb0
      go_wp2_with (first | (go_at_call 13; (refine HA.out.mono ?_); rintro e w8 ⟨rfl, hb8⟩))
      go_ret
      exact ⟨rfl, B7.out.trans (hb8.mono B7.out.size)⟩
    · have hs1 : some1 = b := by rw [← HK.out.2.1, if_neg hb0]
      have hbe : ((str b).toList == []) = false := by rw [str_tl]; exact beq_eq_false_iff_ne.2 hb0
      have hbe2 : (str b).toList.isEmpty = false := by rw [str_tl]; cases h : b with | nil => exact absurd h hb0 | cons _ _ => rfl
      have hse : ((str some1).toList == (str b).toList) = true := by rw [hs1]; exact beq_self_eq_true _
      clear hs1 hb0
      go_wp2_with (first | (go_at_call 13; (refine HA.out.mono ?_); rintro e w8 ⟨rfl, hb8⟩))
      go_ret
      exact ⟨rfl, B7.out.trans (hb8.mono B7.out.size)⟩
end Go.Proofs.YtllhpkpckjacfaaGreatDoor
