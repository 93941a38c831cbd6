import Derived.Test.YtllhpkpckjacfaaGreatDoorPm2
/- Out of the print of PayloadQuotes. -/
namespace Go.Proofs.YtllhpkpckjacfaaGreatDoor.PTemplateFilters
open Go.RowKit Go.Proofs.YtllhpkpckjacfaaGreatDoorW.PrintWords Go.Proofs.YtllhpkpckjacfaaGreatDoorW.PrintLast Go.Proofs.YtllhpkpckjacfaaGreatDoorW.PrintMore
attribute [local go_sem] max2_int min2_int max_two min_two max_three min_three max_four min_four   -- for this text's walks alone
set_option linter.unusedVariables false
set_option linter.unusedSimpArgs false


/-! ### watchfireref29_way: function 69 -/
mutual
def watchfireref29_way.j0 : Nat → ByteArray → Int → Int → Bool → Option (ByteArray)
  | 0, _, _, _, _ => none
  | k + 1, x0, x1, x5, x12 => if x12 = true then (if (wrap64 (x1 + 1)) = (x0.size : Int) then (watchfireref29_way.j1 k x0 x1 x5 true) else (if 0 ≤ (wrap64 (x1 + 1)) then (if (wrap64 (x1 + 1)) < (x0.size : Int) then (watchfireref29_way.j1 k x0 x1 x5 ((bt x0 (wrap64 (x1 + 1))) == 10)) else (none)) else (none))) else (if x5 > 32 then (if x5 < 127 then (if x5 = 61 then ((watchfireref29_hex.f x5).bind fun t216 => (some t216)) else (if 0 ≤ x1 then (if x1 ≤ (wrap64 (x1 + 1)) then (if (wrap64 (x1 + 1)) ≤ (x0.size : Int) then (some (x0.extract (x1 : Int).toNat ((wrap64 (x1 + 1)) : Int).toNat)) else (none)) else (none)) else (none))) else ((watchfireref29_hex.f x5).bind fun t217 => (some t217))) else ((watchfireref29_hex.f x5).bind fun t218 => (some t218)))
def watchfireref29_way.j1 : Nat → ByteArray → Int → Int → Bool → Option (ByteArray)
  | 0, _, _, _, _ => none
  | k + 1, x0, x1, x5, x30 => if x30 = true then ((watchfireref29_hex.f x5).bind fun t215 => (some t215)) else (if 0 ≤ x1 then (if x1 ≤ (wrap64 (x1 + 1)) then (if (wrap64 (x1 + 1)) ≤ (x0.size : Int) then (some (x0.extract (x1 : Int).toNat ((wrap64 (x1 + 1)) : Int).toNat)) else (none)) else (none)) else (none))
end
def watchfireref29_way.f (k : Nat) (a0 : ByteArray) (a1 : Int) : Option (ByteArray) := if 0 ≤ a1 then (if a1 < (a0.size : Int) then (if (bt a0 a1) = 10 then (some (⟨#[13, 10]⟩ : ByteArray)) else (if (bt a0 a1) = 32 then (watchfireref29_way.j0 k a0 a1 (bt a0 a1) true) else (watchfireref29_way.j0 k a0 a1 (bt a0 a1) ((bt a0 a1) == 9)))) else (none)) else (none)
theorem watchfireref29_way.mono_l : ∀ k, (∀ y0 y1 y2 y3, LeO (watchfireref29_way.j0 k y0 y1 y2 y3) (watchfireref29_way.j0 (k + 1) y0 y1 y2 y3)) ∧ (∀ y0 y1 y2 y3, LeO (watchfireref29_way.j1 k y0 y1 y2 y3) (watchfireref29_way.j1 (k + 1) y0 y1 y2 y3))
  | 0 => ⟨fun _ _ _ _ r h => by simp [watchfireref29_way.j0] at h, fun _ _ _ _ r h => by simp [watchfireref29_way.j1] at h⟩
  | k + 1 => by
    obtain ⟨ih0, ih1⟩ := watchfireref29_way.mono_l k
    refine ⟨?_, ?_⟩
    · intro y0 y1 y2 y3
      unfold watchfireref29_way.j0
      repeat' first
      | (with_reducible exact ih0 _ _ _ _)
      | (with_reducible exact ih1 _ _ _ _)
      | (with_reducible exact LeO.refl _)
      | (with_reducible exact LeO.none _)
      | (with_reducible refine LeO.ite ?_ ?_)
      | (with_reducible refine LeO.bind ?_ (fun _ => ?_))
      | exact ih0 _ _ _ _
      | exact ih1 _ _ _ _
      | exact LeO.none _
      | refine LeO.ite ?_ ?_
      | refine LeO.bind ?_ (fun _ => ?_)
    · intro y0 y1 y2 y3
      unfold watchfireref29_way.j1
      repeat' first
      | (with_reducible exact ih0 _ _ _ _)
      | (with_reducible exact ih1 _ _ _ _)
      | (with_reducible exact LeO.refl _)
      | (with_reducible exact LeO.none _)
      | (with_reducible refine LeO.ite ?_ ?_)
      | (with_reducible refine LeO.bind ?_ (fun _ => ?_))
      | exact ih0 _ _ _ _
      | exact ih1 _ _ _ _
      | exact LeO.none _
      | refine LeO.ite ?_ ?_
      | refine LeO.bind ?_ (fun _ => ?_)
theorem watchfireref29_way.mono : ∀ a0 a1 k, LeO (watchfireref29_way.f k a0 a1) (watchfireref29_way.f (k + 1) a0 a1) := by
  intro a0 a1 k
  obtain ⟨ih0, ih1⟩ := watchfireref29_way.mono_l k
  unfold watchfireref29_way.f
  repeat' first
      | (with_reducible exact ih0 _ _ _ _)
      | (with_reducible exact ih1 _ _ _ _)
      | (with_reducible exact LeO.refl _)
      | (with_reducible exact LeO.none _)
      | (with_reducible refine LeO.ite ?_ ?_)
      | (with_reducible refine LeO.bind ?_ (fun _ => ?_))
      | exact ih0 _ _ _ _
      | exact ih1 _ _ _ _
      | exact LeO.none _
      | refine LeO.ite ?_ ?_
      | refine LeO.bind ?_ (fun _ => ?_)
set_option maxHeartbeats 8000000 in
set_option maxRecDepth 100000 in
theorem watchfireref29_way.calls (k : Nat) (a0 : ByteArray) (a1 : Int) (r : ByteArray) (w : World) (h : watchfireref29_way.f k a0 a1 = some r) :
    Calls Tryz.prog 69 #[.string a0, .int .i64 a1] w fun e w' => e = .returned (.string r) ∧ Drawn0 w w' := by
  have H : (if 0 ≤ a1 then (if a1 < (a0.size : Int) then (if (bt a0 a1) = 10 then (some (⟨#[13, 10]⟩ : ByteArray)) else (if (bt a0 a1) = 32 then (watchfireref29_way.j0 k a0 a1 (bt a0 a1) true) else (watchfireref29_way.j0 k a0 a1 (bt a0 a1) ((bt a0 a1) == 9)))) else (none)) else (none)) = some r := h
  clear h
  by_cases c3 : 0 ≤ a1
  · rw [if_pos c3] at H
    have c3b0 : decide (0 ≤ a1) = true := decide_eq_true c3
    clear c3
    by_cases c4 : a1 < (a0.size : Int)
    · rw [if_pos c4] at H
      have c4b0 : decide (a1 < (a0.size : Int)) = true := decide_eq_true c4
      clear c4
      by_cases c6 : (bt a0 a1) = 10
      · rw [if_pos c6] at H
        have c6b0 : ((bt a0 a1) == 10) = true := beq_iff_eq.mpr c6
        have c6b1 : ((bt a0 a1) != 10) = false := bne_eq_false_iff_eq.mpr c6
        clear c6
        obtain rfl := Option.some.inj H
        have p5 : 0 ≤ (a1 : Int) := of_decide_eq_true (by first | (with_reducible assumption) | assumption)
        have q5 : a1 < (a0.size : Int) := of_decide_eq_true (by first | (with_reducible assumption) | assumption)
        have hx5 := bt_at a0 a1
        replace p5 := eq_true p5
        replace q5 := eq_true q5
        go_enter Tryz.func69, Tryz.ntmps69
        go_wp2
        go_ret
        exact ⟨by first | rfl | (simp; done) | (simp [*]; done), by repeat (first | exact Drawn0.refl _ | apply Drawn0.step)⟩
      · rw [if_neg c6] at H
        have c6b0 : ((bt a0 a1) == 10) = false := beq_eq_false_iff_ne.mpr c6
        have c6b1 : ((bt a0 a1) != 10) = true := bne_iff_ne.mpr c6
        have HC7 := Aside0.mk H
        clear H
        have p5 : 0 ≤ (a1 : Int) := of_decide_eq_true (by first | (with_reducible assumption) | assumption)
        have q5 : a1 < (a0.size : Int) := of_decide_eq_true (by first | (with_reducible assumption) | assumption)
        have hx5 := bt_at a0 a1
        replace p5 := eq_true p5
        replace q5 := eq_true q5
        go_enter Tryz.func69, Tryz.ntmps69
        go_upto_region 4 with (fail)
        go_cut [12] (fun v12 wc => ∃ (kq : Nat) (x12_6 : Bool), v12 = .bool x12_6 ∧ Aside0 (watchfireref29_way.j0 kq a0 a1 (bt a0 a1) x12_6 = some r) ∧ Aside0 (kq ≤ k) ∧ Drawn0 w wc)
        case first =>
          have H := HC7.out
          clear HC7
          by_cases c8 : (bt a0 a1) = 32
          · rw [if_pos c8] at H
            have c8b0 : ((bt a0 a1) == 32) = true := beq_iff_eq.mpr c8
            have c8b1 : ((bt a0 a1) != 32) = false := bne_eq_false_iff_eq.mpr c8
            clear c8
            (first | rw [c8b0] | (simp only [i64_w, i32_w]; rw [c8b0]) | skip)
            have H' := Aside0.mk H
            clear H
            go_wp2
            go_meet
            case rel => exact ⟨_, (true), (by first | rfl | (simp; done) | (simp [*]; done)), H', ⟨by first | omega | exact Nat.le_refl _⟩, by repeat (first | exact Drawn0.refl _ | apply Drawn0.step)⟩
          · rw [if_neg c8] at H
            have c8b0 : ((bt a0 a1) == 32) = false := beq_eq_false_iff_ne.mpr c8
            have c8b1 : ((bt a0 a1) != 32) = true := bne_iff_ne.mpr c8
            (first | rw [c8b0] | (simp only [i64_w, i32_w]; rw [c8b0]) | skip)
            have H' := Aside0.mk H
            clear H
            go_wp2
            go_meet
            case rel => exact ⟨_, (((bt a0 a1) == 9)), (by first | rfl | (simp; done) | (simp [*]; done)), H', ⟨by first | omega | exact Nat.le_refl _⟩, by repeat (first | exact Drawn0.refl _ | apply Drawn0.step)⟩
        case rest =>
          clear HC7
          try clear p2
          try clear c3
          try clear c3b0
          try clear c4
          try clear c4b0
          try clear p5
          try clear q5
          try clear hx5
          try clear c6
          try clear c6b0
          try clear c6b1
          try clear c8
          try clear c8b0
          try clear c8b1
          try clear p5
          try clear q5
          obtain ⟨kq, x12_6, rfl, HA, HJ6, ⟨mc6, rfl⟩⟩ := hcut
          cases kq with
          | zero => exact absurd HA.out (by simp [watchfireref29_way.j0])
          | succ kj6 =>
            have H := HA.out
            clear HA
            simp only [watchfireref29_way.j0] at H
            by_cases c9 : x12_6 = true
            · subst c9
              have H1 : (if (wrap64 (a1 + 1)) = (a0.size : Int) then (watchfireref29_way.j1 kj6 a0 a1 (bt a0 a1) true) else (if 0 ≤ (wrap64 (a1 + 1)) then (if (wrap64 (a1 + 1)) < (a0.size : Int) then (watchfireref29_way.j1 kj6 a0 a1 (bt a0 a1) ((bt a0 (wrap64 (a1 + 1))) == 10)) else (none)) else (none))) = some r := by rw [if_pos rfl] at H; exact H
              clear H
              have H := H1
              clear H1
              have HC10 := Aside0.mk H
              clear H
              go_upto_region 5 with (fail)
              go_cut [30] (fun v30 wc => ∃ (kq : Nat) (x30_9 : Bool), v30 = .bool x30_9 ∧ Aside0 (watchfireref29_way.j1 kq a0 a1 (bt a0 a1) x30_9 = some r) ∧ Aside0 (kq ≤ kj6) ∧ Drawn0 w wc)
              case first =>
                have H := HC10.out
                clear HC10
                by_cases c11 : (wrap64 (a1 + 1)) = (a0.size : Int)
                · rw [if_pos c11] at H
                  have c11b0 : ((wrap64 (a1 + 1)) == (a0.size : Int)) = true := beq_iff_eq.mpr c11
                  have c11b1 : ((wrap64 (a1 + 1)) != (a0.size : Int)) = false := bne_eq_false_iff_eq.mpr c11
                  clear c11
                  (first | rw [c11b0] | (simp only [i64_w, i32_w]; rw [c11b0]) | skip)
                  have H' := Aside0.mk H
                  clear H
                  go_wp2
                  go_meet
                  case rel => exact ⟨_, (true), (by first | rfl | (simp; done) | (simp [*]; done)), H', ⟨by have := HJ6.out; first | omega | exact Nat.le_refl _⟩, by repeat (first | exact Drawn0.refl _ | apply Drawn0.step)⟩
                · rw [if_neg c11] at H
                  have c11b0 : ((wrap64 (a1 + 1)) == (a0.size : Int)) = false := beq_eq_false_iff_ne.mpr c11
                  have c11b1 : ((wrap64 (a1 + 1)) != (a0.size : Int)) = true := bne_iff_ne.mpr c11
                  (first | rw [c11b0] | (simp only [i64_w, i32_w]; rw [c11b0]) | skip)
                  obtain ⟨ji12, hji12⟩ : ∃ j_ : Int, (wrap64 (a1 + 1)) = j_ := ⟨_, rfl⟩
                  replace H : (if 0 ≤ (ji12) then (if (ji12) < (a0.size : Int) then (watchfireref29_way.j1 kj6 a0 a1 (bt a0 a1) ((bt a0 (ji12)) == 10)) else (none)) else (none)) = some r := by first | (rw [hji12] at H; exact H) | (simp only [hji12] at H ⊢; exact H)
                  (try rw [hji12] at c11b0)
                  (try rw [hji12] at c11b1)
                  have hji12w : (IntKind.i64.wrap (a1 + 1)) = ji12 := (i64_w _).trans hji12
                  by_cases c13 : 0 ≤ (ji12)
                  · rw [if_pos c13] at H
                    have c13b0 : decide (0 ≤ (ji12)) = true := decide_eq_true c13
                    clear c13
                    by_cases c14 : (ji12) < (a0.size : Int)
                    · rw [if_pos c14] at H
                      have c14b0 : decide ((ji12) < (a0.size : Int)) = true := decide_eq_true c14
                      clear c14
                      have H' := Aside0.mk H
                      clear H
                      have p15 : 0 ≤ ((ji12) : Int) := of_decide_eq_true (by first | (with_reducible assumption) | assumption)
                      have q15 : (ji12) < (a0.size : Int) := of_decide_eq_true (by first | (with_reducible assumption) | assumption)
                      have hx15 := bt_at a0 (ji12)
                      replace p15 := eq_true p15
                      replace q15 := eq_true q15
                      go_wp2
                      go_meet
                      case rel => exact ⟨_, (((bt a0 (ji12)) == 10)), (by first | rfl | (simp; done) | (simp only [← hji12] <;> (first | rfl | simp)) | (simp [*]; done)), H', ⟨by have := HJ6.out; first | omega | exact Nat.le_refl _⟩, by repeat (first | exact Drawn0.refl _ | apply Drawn0.step)⟩
                    · rw [if_neg c14] at H
                      exact absurd H (by simp)
                  · rw [if_neg c13] at H
                    exact absurd H (by simp)
              case rest =>
                clear HC10
                try clear c1
                try clear p1
                try clear q1
                try clear hx1
                try clear p2
                try clear c3
                try clear c3b0
                try clear c4
                try clear c4b0
                try clear p5
                try clear q5
                try clear hx5
                try clear c6
                try clear c6b0
                try clear c6b1
                try clear p6
                try clear c8
                try clear c8b0
                try clear c8b1
                try clear c9
                try clear c11
                try clear c11b0
                try clear c11b1
                try clear c13
                try clear c13b0
                try clear c14
                try clear c14b0
                try clear p15
                try clear q15
                try clear hx15
                try clear p15
                try clear p2
                try clear p5
                try clear q15
                try clear q5
                obtain ⟨kq, x30_9, rfl, HA, HJ9, ⟨mc9, rfl⟩⟩ := hcut
                cases kq with
                | zero => exact absurd HA.out (by simp [watchfireref29_way.j1])
                | succ kj9 =>
                  have H := HA.out
                  clear HA
                  simp only [watchfireref29_way.j1] at H
                  by_cases c16 : x30_9 = true
                  · subst c16
                    have H1 : ((watchfireref29_hex.f (bt a0 a1)).bind fun t215 => (some t215)) = some r := by rw [if_pos rfl] at H; exact H
                    clear H
                    have H := H1
                    clear H1
                    replace H := Option.bind_eq_some_iff.mp H
                    obtain ⟨t215, A170, H⟩ := H
                    replace H : (some t215) = some r := H
                    have A17 := Aside0.mk A170
                    clear A170
                    obtain rfl := Option.some.inj H
                    go_wp2_with (first | ((with_reducible refine gate_callee (f := 59) rfl ?_); refine goesL_ (some 32) rfl rfl Tryz.func59 (by kernel_rfl) rfl #[.int .u8 (bt a0 a1)] rfl (by (try simp only [List.map_toArray, List.map_cons, List.map_nil]); first | done | rfl | (simp only [List.length_drop, List.length_take]; rfl)) ?_; (with_reducible refine (watchfireref29_hex.calls (bt a0 a1) t215 _ A17.out).mono ?_); rintro e w' ⟨rfl, ⟨nd, rfl⟩⟩; refine ⟨_, rfl, ?_⟩))
                    go_ret
                    exact ⟨by first | rfl | (simp; done) | (simp [*]; done), by repeat (first | exact Drawn0.refl _ | apply Drawn0.step)⟩
                  · replace c16 := Bool.eq_false_iff.mpr c16
                    subst c16
                    have H1 : (if 0 ≤ a1 then (if a1 ≤ (wrap64 (a1 + 1)) then (if (wrap64 (a1 + 1)) ≤ (a0.size : Int) then (some (a0.extract (a1 : Int).toNat ((wrap64 (a1 + 1)) : Int).toNat)) else (none)) else (none)) else (none)) = some r := by rw [if_neg (show ¬ (false = true) by decide)] at H; exact H
                    clear H
                    have H := H1
                    clear H1
                    by_cases c18 : 0 ≤ a1
                    · rw [if_pos c18] at H
                      have c18b0 := eq_true c18
                      have c18b1 : decide (0 ≤ a1) = true := decide_eq_true c18
                      clear c18
                      by_cases c19 : a1 ≤ (wrap64 (a1 + 1))
                      · rw [if_pos c19] at H
                        have c19b0 := eq_true c19
                        have c19b1 : decide (a1 ≤ (wrap64 (a1 + 1))) = true := decide_eq_true c19
                        by_cases c20 : (wrap64 (a1 + 1)) ≤ (a0.size : Int)
                        · rw [if_pos c20] at H
                          have c20b0 := eq_true c20
                          have c20b1 : decide ((wrap64 (a1 + 1)) ≤ (a0.size : Int)) = true := decide_eq_true c20
                          obtain rfl := Option.some.inj H
                          go_wp2
                          go_ret
                          exact ⟨by first | rfl | (simp; done) | (simp [*]; done), by repeat (first | exact Drawn0.refl _ | apply Drawn0.step)⟩
                        · rw [if_neg c20] at H
                          exact absurd H (by simp)
                      · rw [if_neg c19] at H
                        exact absurd H (by simp)
                    · rw [if_neg c18] at H
                      exact absurd H (by simp)
            · replace c9 := Bool.eq_false_iff.mpr c9
              subst c9
              have H1 : (if (bt a0 a1) > 32 then (if (bt a0 a1) < 127 then (if (bt a0 a1) = 61 then ((watchfireref29_hex.f (bt a0 a1)).bind fun t216 => (some t216)) else (if 0 ≤ a1 then (if a1 ≤ (wrap64 (a1 + 1)) then (if (wrap64 (a1 + 1)) ≤ (a0.size : Int) then (some (a0.extract (a1 : Int).toNat ((wrap64 (a1 + 1)) : Int).toNat)) else (none)) else (none)) else (none))) else ((watchfireref29_hex.f (bt a0 a1)).bind fun t217 => (some t217))) else ((watchfireref29_hex.f (bt a0 a1)).bind fun t218 => (some t218))) = some r := by rw [if_neg (show ¬ (false = true) by decide)] at H; exact H
              clear H
              have H := H1
              clear H1
              by_cases c21 : (bt a0 a1) > 32
              · rw [if_pos c21] at H
                have c21b0 : decide (32 < (bt a0 a1)) = true := decide_eq_true c21
                clear c21
                by_cases c22 : (bt a0 a1) < 127
                · rw [if_pos c22] at H
                  have c22b0 : decide ((bt a0 a1) < 127) = true := decide_eq_true c22
                  clear c22
                  by_cases c23 : (bt a0 a1) = 61
                  · rw [if_pos c23] at H
                    have c23b0 : ((bt a0 a1) == 61) = true := beq_iff_eq.mpr c23
                    have c23b1 : ((bt a0 a1) != 61) = false := bne_eq_false_iff_eq.mpr c23
                    clear c23
                    replace H := Option.bind_eq_some_iff.mp H
                    obtain ⟨t216, A240, H⟩ := H
                    replace H : (some t216) = some r := H
                    have A24 := Aside0.mk A240
                    clear A240
                    obtain rfl := Option.some.inj H
                    go_wp2_with (first | ((with_reducible refine gate_callee (f := 59) rfl ?_); refine goesL_ (some 55) rfl rfl Tryz.func59 (by kernel_rfl) rfl #[.int .u8 (bt a0 a1)] rfl (by (try simp only [List.map_toArray, List.map_cons, List.map_nil]); first | done | rfl | (simp only [List.length_drop, List.length_take]; rfl)) ?_; (with_reducible refine (watchfireref29_hex.calls (bt a0 a1) t216 _ A24.out).mono ?_); rintro e w' ⟨rfl, ⟨nd, rfl⟩⟩; refine ⟨_, rfl, ?_⟩))
                    go_ret
                    exact ⟨by first | rfl | (simp; done) | (simp [*]; done), by repeat (first | exact Drawn0.refl _ | apply Drawn0.step)⟩
                  · rw [if_neg c23] at H
                    have c23b0 : ((bt a0 a1) == 61) = false := beq_eq_false_iff_ne.mpr c23
                    have c23b1 : ((bt a0 a1) != 61) = true := bne_iff_ne.mpr c23
                    by_cases c25 : 0 ≤ a1
                    · rw [if_pos c25] at H
                      have c25b0 := eq_true c25
                      have c25b1 : decide (0 ≤ a1) = true := decide_eq_true c25
                      clear c25
                      by_cases c26 : a1 ≤ (wrap64 (a1 + 1))
                      · rw [if_pos c26] at H
                        have c26b0 := eq_true c26
                        have c26b1 : decide (a1 ≤ (wrap64 (a1 + 1))) = true := decide_eq_true c26
                        by_cases c27 : (wrap64 (a1 + 1)) ≤ (a0.size : Int)
                        · rw [if_pos c27] at H
                          have c27b0 := eq_true c27
                          have c27b1 : decide ((wrap64 (a1 + 1)) ≤ (a0.size : Int)) = true := decide_eq_true c27
                          obtain rfl := Option.some.inj H
                          go_wp2
                          go_ret
                          exact ⟨by first | rfl | (simp; done) | (simp [*]; done), by repeat (first | exact Drawn0.refl _ | apply Drawn0.step)⟩
                        · rw [if_neg c27] at H
                          exact absurd H (by simp)
                      · rw [if_neg c26] at H
                        exact absurd H (by simp)
                    · rw [if_neg c25] at H
                      exact absurd H (by simp)
                · rw [if_neg c22] at H
                  have c22b0 : decide ((bt a0 a1) < 127) = false := decide_eq_false c22
                  clear c22
                  replace H := Option.bind_eq_some_iff.mp H
                  obtain ⟨t217, A280, H⟩ := H
                  replace H : (some t217) = some r := H
                  have A28 := Aside0.mk A280
                  clear A280
                  obtain rfl := Option.some.inj H
                  go_wp2_with (first | ((with_reducible refine gate_callee (f := 59) rfl ?_); refine goesL_ (some 55) rfl rfl Tryz.func59 (by kernel_rfl) rfl #[.int .u8 (bt a0 a1)] rfl (by (try simp only [List.map_toArray, List.map_cons, List.map_nil]); first | done | rfl | (simp only [List.length_drop, List.length_take]; rfl)) ?_; (with_reducible refine (watchfireref29_hex.calls (bt a0 a1) t217 _ A28.out).mono ?_); rintro e w' ⟨rfl, ⟨nd, rfl⟩⟩; refine ⟨_, rfl, ?_⟩))
                  go_ret
                  exact ⟨by first | rfl | (simp; done) | (simp [*]; done), by repeat (first | exact Drawn0.refl _ | apply Drawn0.step)⟩
              · rw [if_neg c21] at H
                have c21b0 : decide (32 < (bt a0 a1)) = false := decide_eq_false c21
                clear c21
                replace H := Option.bind_eq_some_iff.mp H
                obtain ⟨t218, A290, H⟩ := H
                replace H : (some t218) = some r := H
                have A29 := Aside0.mk A290
                clear A290
                obtain rfl := Option.some.inj H
                go_wp2_with (first | ((with_reducible refine gate_callee (f := 59) rfl ?_); refine goesL_ (some 55) rfl rfl Tryz.func59 (by kernel_rfl) rfl #[.int .u8 (bt a0 a1)] rfl (by (try simp only [List.map_toArray, List.map_cons, List.map_nil]); first | done | rfl | (simp only [List.length_drop, List.length_take]; rfl)) ?_; (with_reducible refine (watchfireref29_hex.calls (bt a0 a1) t218 _ A29.out).mono ?_); rintro e w' ⟨rfl, ⟨nd, rfl⟩⟩; refine ⟨_, rfl, ?_⟩))
                go_ret
                exact ⟨by first | rfl | (simp; done) | (simp [*]; done), by repeat (first | exact Drawn0.refl _ | apply Drawn0.step)⟩
    · rw [if_neg c4] at H
      exact absurd H (by simp)
  · rw [if_neg c3] at H
    exact absurd H (by simp)

/-! ### watchfireref29_Quoted: function 34 -/
def watchfireref29_Quoted.l0 : Nat → ByteArray → ByteArray → Int → Int → Option (ByteArray)
  | 0, _, _, _, _ => none
  | k + 1, x0, x3, x4, x5 => if x5 < (x0.size : Int) then ((watchfireref29_way.f k x0 x5).bind fun t219 => (if t219.toList = ([13, 10] : List UInt8) then (if x3.size + t219.size ≤ 9223372036854775807 then (watchfireref29_Quoted.l0 k x0 (x3 ++ t219) 0 (wrap64 (x5 + 1))) else (none)) else (if (wrap64 (x4 + (t219.size : Int))) > 75 then (if x3.size + 3 ≤ 9223372036854775807 then (if (x3 ++ (⟨#[61, 13, 10]⟩ : ByteArray)).size + t219.size ≤ 9223372036854775807 then (watchfireref29_Quoted.l0 k x0 ((x3 ++ (⟨#[61, 13, 10]⟩ : ByteArray)) ++ t219) (wrap64 (0 + (t219.size : Int))) (wrap64 (x5 + 1))) else (none)) else (none)) else (if x3.size + t219.size ≤ 9223372036854775807 then (watchfireref29_Quoted.l0 k x0 (x3 ++ t219) (wrap64 (x4 + (t219.size : Int))) (wrap64 (x5 + 1))) else (none))))) else (some x3)
def watchfireref29_Quoted.f (k : Nat) (a0 : ByteArray) : Option (ByteArray) := watchfireref29_Quoted.l0 k a0 (⟨#[]⟩ : ByteArray) 0 0
theorem watchfireref29_Quoted.mono_l : ∀ k, (∀ y0 y1 y2 y3, LeO (watchfireref29_Quoted.l0 k y0 y1 y2 y3) (watchfireref29_Quoted.l0 (k + 1) y0 y1 y2 y3))
  | 0 => fun _ _ _ _ r h => by simp [watchfireref29_Quoted.l0] at h
  | k + 1 => by
    have ih0 := watchfireref29_Quoted.mono_l k
    · intro y0 y1 y2 y3
      unfold watchfireref29_Quoted.l0
      repeat' first
      | (with_reducible exact ih0 _ _ _ _)
      | (with_reducible exact watchfireref29_way.mono _ _ _)
      | (with_reducible exact LeO.refl _)
      | (with_reducible exact LeO.none _)
      | (with_reducible refine LeO.ite ?_ ?_)
      | (with_reducible refine LeO.bind ?_ (fun _ => ?_))
      | exact ih0 _ _ _ _
      | exact watchfireref29_way.mono _ _ _
      | exact LeO.none _
      | refine LeO.ite ?_ ?_
      | refine LeO.bind ?_ (fun _ => ?_)
theorem watchfireref29_Quoted.mono : ∀ a0 k, LeO (watchfireref29_Quoted.f k a0) (watchfireref29_Quoted.f (k + 1) a0) := by
  intro a0 k
  have ih0 := watchfireref29_Quoted.mono_l k
  unfold watchfireref29_Quoted.f
  repeat' first
      | (with_reducible exact ih0 _ _ _ _)
      | (with_reducible exact watchfireref29_way.mono _ _ _)
      | (with_reducible exact LeO.refl _)
      | (with_reducible exact LeO.none _)
      | (with_reducible refine LeO.ite ?_ ?_)
      | (with_reducible refine LeO.bind ?_ (fun _ => ?_))
      | exact ih0 _ _ _ _
      | exact watchfireref29_way.mono _ _ _
      | exact LeO.none _
      | refine LeO.ite ?_ ?_
      | refine LeO.bind ?_ (fun _ => ?_)
set_option maxHeartbeats 8000000 in
set_option maxRecDepth 100000 in
theorem watchfireref29_Quoted.calls (k : Nat) (a0 : ByteArray) (r : ByteArray) (w : World) (h : watchfireref29_Quoted.f k a0 = some r) :
    Calls Tryz.prog 34 #[.string a0] w fun e w' => e = .returned (.string r) ∧ Drawn0 w w' := by
  have H : (watchfireref29_Quoted.l0 k a0 (⟨#[]⟩ : ByteArray) 0 0) = some r := h
  clear h
  have H' := Aside0.mk H
  clear H
  go_enter Tryz.func34, Tryz.ntmps34
  go_wp2
  go_loopg [3, 4, 5] k (fun kq v3 v4 v5 w' => ∃ (x3_1 : ByteArray) (x4_1 : Int) (x5_1 : Int), v3 = .string x3_1 ∧ v4 = .int .i64 x4_1 ∧ v5 = .int .i64 x5_1 ∧ Aside0 (watchfireref29_Quoted.l0 kq a0 x3_1 x4_1 x5_1 = some r) ∧ Aside0 (kq ≤ k) ∧ Drawn0 w w')
  case atStart => exact ⟨((⟨#[]⟩ : ByteArray)), (0), (0), (by first | rfl | (simp; done) | (simp [*]; done)), (by first | rfl | (simp; done) | (simp [*]; done)), (by first | rfl | (simp; done) | (simp [*]; done)), H', ⟨Nat.le_refl _⟩, by repeat (first | exact Drawn0.refl _ | apply Drawn0.step)⟩
  case round =>
    clear H'
    obtain ⟨x3_1, x4_1, x5_1, rfl, rfl, rfl, HA, HK1, ⟨m1, rfl⟩⟩ := hrel
    cases gk with
    | zero => exact absurd HA.out (by simp [watchfireref29_Quoted.l0])
    | succ k1 =>
      have H := HA.out
      clear HA
      simp only [watchfireref29_Quoted.l0] at H
      by_cases c2 : x5_1 < (a0.size : Int)
      · rw [if_pos c2] at H
        have c2b0 : decide (x5_1 < (a0.size : Int)) = true := decide_eq_true c2
        clear c2
        replace H := Option.bind_eq_some_iff.mp H
        obtain ⟨t219, A30, H⟩ := H
        replace H : (if t219.toList = ([13, 10] : List UInt8) then (if x3_1.size + t219.size ≤ 9223372036854775807 then (watchfireref29_Quoted.l0 k1 a0 (x3_1 ++ t219) 0 (wrap64 (x5_1 + 1))) else (none)) else (if (wrap64 (x4_1 + (t219.size : Int))) > 75 then (if x3_1.size + 3 ≤ 9223372036854775807 then (if (x3_1 ++ (⟨#[61, 13, 10]⟩ : ByteArray)).size + t219.size ≤ 9223372036854775807 then (watchfireref29_Quoted.l0 k1 a0 ((x3_1 ++ (⟨#[61, 13, 10]⟩ : ByteArray)) ++ t219) (wrap64 (0 + (t219.size : Int))) (wrap64 (x5_1 + 1))) else (none)) else (none)) else (if x3_1.size + t219.size ≤ 9223372036854775807 then (watchfireref29_Quoted.l0 k1 a0 (x3_1 ++ t219) (wrap64 (x4_1 + (t219.size : Int))) (wrap64 (x5_1 + 1))) else (none)))) = some r := H
        have A3 := Aside0.mk A30
        clear A30
        by_cases c4 : t219.toList = ([13, 10] : List UInt8)
        · rw [if_pos c4] at H
          have c4b0 : (t219.toList == ([13, 10] : List UInt8)) = true := beq_iff_eq.mpr c4
          have c4b1 : (t219.toList != ([13, 10] : List UInt8)) = false := bne_eq_false_iff_eq.mpr c4
          clear c4
          by_cases c5 : x3_1.size + t219.size ≤ 9223372036854775807
          · rw [if_pos c5] at H
            have c5b0 := eq_true c5
            have c5b1 : decide (x3_1.size + t219.size ≤ 9223372036854775807) = true := decide_eq_true c5
            try have c5b2 : (9223372036854775807 < x3_1.size + t219.size) = False := eq_false (Nat.not_lt.2 c5)
            have H' := Aside0.mk H
            clear H
            go_wp2_with (first | ((with_reducible refine gate_callee (f := 69) rfl ?_); refine goesL_ (some 15) rfl rfl Tryz.func69 (by kernel_rfl) rfl #[.string a0, .int .i64 x5_1] rfl (by (try simp only [List.map_toArray, List.map_cons, List.map_nil]); first | done | rfl | (simp only [List.length_drop, List.length_take]; rfl)) ?_; (with_reducible refine (watchfireref29_way.calls k1 a0 x5_1 t219 _ A3.out).mono ?_); rintro e w' ⟨rfl, ⟨nd, rfl⟩⟩; refine ⟨_, rfl, ?_⟩))
            go_roundg k1
            case measure => have := HK1.out; omega
            case rel => exact ⟨(x3_1 ++ t219), (0), (wrap64 (x5_1 + 1)), (by first | rfl | (simp; done) | (simp [*]; done)), (by first | rfl | (simp; done) | (simp [*]; done)), (by first | rfl | (simp; done) | (simp [*]; done)), H', ⟨by have := HK1.out; omega⟩, by repeat (first | exact Drawn0.refl _ | apply Drawn0.step)⟩
          · rw [if_neg c5] at H
            exact absurd H (by simp)
        · rw [if_neg c4] at H
          have c4b0 : (t219.toList == ([13, 10] : List UInt8)) = false := beq_eq_false_iff_ne.mpr c4
          have c4b1 : (t219.toList != ([13, 10] : List UInt8)) = true := bne_iff_ne.mpr c4
          by_cases c6 : (wrap64 (x4_1 + (t219.size : Int))) > 75
          · rw [if_pos c6] at H
            have c6b0 : decide (75 < (wrap64 (x4_1 + (t219.size : Int)))) = true := decide_eq_true c6
            clear c6
            by_cases c7 : x3_1.size + 3 ≤ 9223372036854775807
            · rw [if_pos c7] at H
              have c7b0 := eq_true c7
              have c7b1 : decide (x3_1.size + 3 ≤ 9223372036854775807) = true := decide_eq_true c7
              try have c7b2 : (9223372036854775807 < x3_1.size + 3) = False := eq_false (Nat.not_lt.2 c7)
              by_cases c8 : (x3_1 ++ (⟨#[61, 13, 10]⟩ : ByteArray)).size + t219.size ≤ 9223372036854775807
              · rw [if_pos c8] at H
                have c8b0 := eq_true c8
                have c8b1 : decide ((x3_1 ++ (⟨#[61, 13, 10]⟩ : ByteArray)).size + t219.size ≤ 9223372036854775807) = true := decide_eq_true c8
                try have c8b2 : (9223372036854775807 < (x3_1 ++ (⟨#[61, 13, 10]⟩ : ByteArray)).size + t219.size) = False := eq_false (Nat.not_lt.2 c8)
                have H' := Aside0.mk H
                clear H
                go_wp2_with (first | ((with_reducible refine gate_callee (f := 69) rfl ?_); refine goesL_ (some 15) rfl rfl Tryz.func69 (by kernel_rfl) rfl #[.string a0, .int .i64 x5_1] rfl (by (try simp only [List.map_toArray, List.map_cons, List.map_nil]); first | done | rfl | (simp only [List.length_drop, List.length_take]; rfl)) ?_; (with_reducible refine (watchfireref29_way.calls k1 a0 x5_1 t219 _ A3.out).mono ?_); rintro e w' ⟨rfl, ⟨nd, rfl⟩⟩; refine ⟨_, rfl, ?_⟩))
                go_roundg k1
                case measure => have := HK1.out; omega
                case rel => exact ⟨((x3_1 ++ (⟨#[61, 13, 10]⟩ : ByteArray)) ++ t219), (wrap64 (0 + (t219.size : Int))), (wrap64 (x5_1 + 1)), (by first | rfl | (simp; done) | (simp [*]; done)), (by rw [show wrap64 (0 + (t219.size : Int)) = (t219.size : Int) by rw [w64_in _ (by omega)]; omega]), (by first | rfl | (simp; done) | (simp [*]; done)), H', ⟨by have := HK1.out; omega⟩, by repeat (first | exact Drawn0.refl _ | apply Drawn0.step)⟩
              · rw [if_neg c8] at H
                exact absurd H (by simp)
            · rw [if_neg c7] at H
              exact absurd H (by simp)
          · rw [if_neg c6] at H
            have c6b0 : decide (75 < (wrap64 (x4_1 + (t219.size : Int)))) = false := decide_eq_false c6
            clear c6
            by_cases c9 : x3_1.size + t219.size ≤ 9223372036854775807
            · rw [if_pos c9] at H
              have c9b0 := eq_true c9
              have c9b1 : decide (x3_1.size + t219.size ≤ 9223372036854775807) = true := decide_eq_true c9
              try have c9b2 : (9223372036854775807 < x3_1.size + t219.size) = False := eq_false (Nat.not_lt.2 c9)
              have H' := Aside0.mk H
              clear H
              go_wp2_with (first | ((with_reducible refine gate_callee (f := 69) rfl ?_); refine goesL_ (some 15) rfl rfl Tryz.func69 (by kernel_rfl) rfl #[.string a0, .int .i64 x5_1] rfl (by (try simp only [List.map_toArray, List.map_cons, List.map_nil]); first | done | rfl | (simp only [List.length_drop, List.length_take]; rfl)) ?_; (with_reducible refine (watchfireref29_way.calls k1 a0 x5_1 t219 _ A3.out).mono ?_); rintro e w' ⟨rfl, ⟨nd, rfl⟩⟩; refine ⟨_, rfl, ?_⟩))
              go_roundg k1
              case measure => have := HK1.out; omega
              case rel => exact ⟨(x3_1 ++ t219), (wrap64 (x4_1 + (t219.size : Int))), (wrap64 (x5_1 + 1)), (by first | rfl | (simp; done) | (simp [*]; done)), (by first | rfl | (simp; done) | (simp [*]; done)), (by first | rfl | (simp; done) | (simp [*]; done)), H', ⟨by have := HK1.out; omega⟩, by repeat (first | exact Drawn0.refl _ | apply Drawn0.step)⟩
            · rw [if_neg c9] at H
              exact absurd H (by simp)
      · rw [if_neg c2] at H
        have c2b0 : decide (x5_1 < (a0.size : Int)) = false := decide_eq_false c2
        clear c2
        obtain rfl := Option.some.inj H
        go_wp2
        go_ret
        exact ⟨by first | rfl | (simp; done) | (simp [*]; done), by repeat (first | exact Drawn0.refl _ | apply Drawn0.step)⟩

/-! ### watchfireref29_digit: function 65 -/
def watchfireref29_digit.l0 : Nat → Int → Int → Option (Int)
  | 0, _, _ => none
  | k + 1, x0, x3 => if x3 < 16 then (if 0 ≤ x3 then (if (bt (⟨#[48, 49, 50, 51, 52, 53, 54, 55, 56, 57, 65, 66, 67, 68, 69, 70]⟩ : ByteArray) x3) = x0 then (some x3) else (watchfireref29_digit.l0 k x0 (wrap64 (x3 + 1)))) else (none)) else (some 16)
def watchfireref29_digit.f (k : Nat) (a0 : Int) : Option (Int) := watchfireref29_digit.l0 k a0 0
theorem watchfireref29_digit.mono_l : ∀ k, (∀ y0 y1, LeO (watchfireref29_digit.l0 k y0 y1) (watchfireref29_digit.l0 (k + 1) y0 y1))
  | 0 => fun _ _ r h => by simp [watchfireref29_digit.l0] at h
  | k + 1 => by
    have ih0 := watchfireref29_digit.mono_l k
    · intro y0 y1
      unfold watchfireref29_digit.l0
      repeat' first
      | (with_reducible exact ih0 _ _)
      | (with_reducible exact LeO.refl _)
      | (with_reducible exact LeO.none _)
      | (with_reducible refine LeO.ite ?_ ?_)
      | (with_reducible refine LeO.bind ?_ (fun _ => ?_))
      | exact ih0 _ _
      | exact LeO.none _
      | refine LeO.ite ?_ ?_
      | refine LeO.bind ?_ (fun _ => ?_)
theorem watchfireref29_digit.mono : ∀ a0 k, LeO (watchfireref29_digit.f k a0) (watchfireref29_digit.f (k + 1) a0) := by
  intro a0 k
  have ih0 := watchfireref29_digit.mono_l k
  unfold watchfireref29_digit.f
  repeat' first
      | (with_reducible exact ih0 _ _)
      | (with_reducible exact LeO.refl _)
      | (with_reducible exact LeO.none _)
      | (with_reducible refine LeO.ite ?_ ?_)
      | (with_reducible refine LeO.bind ?_ (fun _ => ?_))
      | exact ih0 _ _
      | exact LeO.none _
      | refine LeO.ite ?_ ?_
      | refine LeO.bind ?_ (fun _ => ?_)
set_option maxHeartbeats 8000000 in
set_option maxRecDepth 100000 in
theorem watchfireref29_digit.calls (k : Nat) (a0 : Int) (r : Int) (w : World) (h : watchfireref29_digit.f k a0 = some r) :
    Calls Tryz.prog 65 #[.int .u8 a0] w fun e w' => e = .returned (.int .i64 r) ∧ Drawn0 w w' := by
  have H : (watchfireref29_digit.l0 k a0 0) = some r := h
  clear h
  have H' := Aside0.mk H
  clear H
  go_enter Tryz.func65, Tryz.ntmps65
  go_wp2
  go_loopg [3] k (fun kq v3 w' => ∃ (x3_1 : Int), v3 = .int .i64 x3_1 ∧ Aside0 (watchfireref29_digit.l0 kq a0 x3_1 = some r) ∧ Aside0 (kq ≤ k) ∧ Drawn0 w w')
  case atStart => exact ⟨(0), (by first | rfl | (simp; done) | (simp [*]; done)), H', ⟨Nat.le_refl _⟩, by repeat (first | exact Drawn0.refl _ | apply Drawn0.step)⟩
  case round =>
    clear H'
    obtain ⟨x3_1, rfl, HA, HK1, ⟨m1, rfl⟩⟩ := hrel
    cases gk with
    | zero => exact absurd HA.out (by simp [watchfireref29_digit.l0])
    | succ k1 =>
      have H := HA.out
      clear HA
      simp only [watchfireref29_digit.l0] at H
      by_cases c2 : x3_1 < 16
      · rw [if_pos c2] at H
        have c2b0 : decide (x3_1 < 16) = true := decide_eq_true c2
        clear c2
        by_cases c3 : 0 ≤ x3_1
        · rw [if_pos c3] at H
          have c3b0 : decide (0 ≤ x3_1) = true := decide_eq_true c3
          clear c3
          by_cases c5 : (bt (⟨#[48, 49, 50, 51, 52, 53, 54, 55, 56, 57, 65, 66, 67, 68, 69, 70]⟩ : ByteArray) x3_1) = a0
          · rw [if_pos c5] at H
            have c5b0 : ((bt (⟨#[48, 49, 50, 51, 52, 53, 54, 55, 56, 57, 65, 66, 67, 68, 69, 70]⟩ : ByteArray) x3_1) == a0) = true := beq_iff_eq.mpr c5
            have c5b1 : ((bt (⟨#[48, 49, 50, 51, 52, 53, 54, 55, 56, 57, 65, 66, 67, 68, 69, 70]⟩ : ByteArray) x3_1) != a0) = false := bne_eq_false_iff_eq.mpr c5
            clear c5
            obtain rfl := Option.some.inj H
            have p4 : 0 ≤ (x3_1 : Int) := of_decide_eq_true (by first | (with_reducible assumption) | assumption)
            have q4 : x3_1 < (16 : Int) := of_decide_eq_true (by first | (with_reducible assumption) | assumption)
            have hx4 := bt_at (⟨#[48, 49, 50, 51, 52, 53, 54, 55, 56, 57, 65, 66, 67, 68, 69, 70]⟩ : ByteArray) x3_1
            replace p4 := eq_true p4
            replace q4 := eq_true q4
            go_wp2
            go_ret
            exact ⟨by first | rfl | (simp; done) | (simp [*]; done), by repeat (first | exact Drawn0.refl _ | apply Drawn0.step)⟩
          · rw [if_neg c5] at H
            have c5b0 : ((bt (⟨#[48, 49, 50, 51, 52, 53, 54, 55, 56, 57, 65, 66, 67, 68, 69, 70]⟩ : ByteArray) x3_1) == a0) = false := beq_eq_false_iff_ne.mpr c5
            have c5b1 : ((bt (⟨#[48, 49, 50, 51, 52, 53, 54, 55, 56, 57, 65, 66, 67, 68, 69, 70]⟩ : ByteArray) x3_1) != a0) = true := bne_iff_ne.mpr c5
            have H' := Aside0.mk H
            clear H
            have p4 : 0 ≤ (x3_1 : Int) := of_decide_eq_true (by first | (with_reducible assumption) | assumption)
            have q4 : x3_1 < (16 : Int) := of_decide_eq_true (by first | (with_reducible assumption) | assumption)
            have hx4 := bt_at (⟨#[48, 49, 50, 51, 52, 53, 54, 55, 56, 57, 65, 66, 67, 68, 69, 70]⟩ : ByteArray) x3_1
            replace p4 := eq_true p4
            replace q4 := eq_true q4
            go_wp2
            go_roundg k1
            case measure => have := HK1.out; omega
            case rel => exact ⟨(wrap64 (x3_1 + 1)), (by first | rfl | (simp; done) | (simp [*]; done)), H', ⟨by have := HK1.out; omega⟩, by repeat (first | exact Drawn0.refl _ | apply Drawn0.step)⟩
        · rw [if_neg c3] at H
          exact absurd H (by simp)
      · rw [if_neg c2] at H
        have c2b0 : decide (x3_1 < 16) = false := decide_eq_false c2
        clear c2
        obtain rfl := Option.some.inj H
        go_wp2
        go_ret
        exact ⟨by first | rfl | (simp; done) | (simp [*]; done), by repeat (first | exact Drawn0.refl _ | apply Drawn0.step)⟩

/-! ### watchfireref29_Unquoted: function 32 -/
mutual
def watchfireref29_Unquoted.l0 : Nat → ByteArray → List Int → Int → Option (ByteArray × Int)
  | 0, _, _, _ => none
  | k + 1, x0, x4, x5 => if x5 < (x0.size : Int) then (if 0 ≤ x5 then (if (bt x0 x5) = 61 then (if (wrap64 (x5 + 2)) < (x0.size : Int) then (if 0 ≤ (wrap64 (x5 + 1)) then (if (wrap64 (x5 + 1)) < (x0.size : Int) then (if (bt x0 (wrap64 (x5 + 1))) = 13 then (if 0 ≤ (wrap64 (x5 + 2)) then (watchfireref29_Unquoted.j1 k x0 x4 x5 ((bt x0 (wrap64 (x5 + 2))) == 10)) else (none)) else (watchfireref29_Unquoted.j1 k x0 x4 x5 false)) else (none)) else (none)) else (watchfireref29_Unquoted.j1 k x0 x4 x5 false)) else (watchfireref29_Unquoted.j1 k x0 x4 x5 false)) else (none)) else ((watchfireref29_Quoted.f k (strOfNums x4)).bind fun t220 => (if t220.toList = x0.toList then (some (strOfNums x4, 0)) else (some ((⟨#[]⟩ : ByteArray), 4))))
def watchfireref29_Unquoted.j1 : Nat → ByteArray → List Int → Int → Bool → Option (ByteArray × Int)
  | 0, _, _, _, _ => none
  | k + 1, x0, x4, x5, x18 => if x18 = true then (watchfireref29_Unquoted.l0 k x0 x4 (wrap64 (x5 + 3))) else (if 0 ≤ x5 then (if x5 < (x0.size : Int) then (if (bt x0 x5) = 61 then (if (wrap64 (x5 + 2)) < (x0.size : Int) then (if 0 ≤ (wrap64 (x5 + 1)) then (if (wrap64 (x5 + 1)) < (x0.size : Int) then ((watchfireref29_digit.f k (bt x0 (wrap64 (x5 + 1)))).bind fun t221 => (if t221 < 16 then (if 0 ≤ (wrap64 (x5 + 2)) then ((watchfireref29_digit.f k (bt x0 (wrap64 (x5 + 2)))).bind fun t222 => (watchfireref29_Unquoted.j2 k x0 x4 x5 (decide (t222 < 16)))) else (none)) else (watchfireref29_Unquoted.j2 k x0 x4 x5 false))) else (none)) else (none)) else (watchfireref29_Unquoted.j2 k x0 x4 x5 false)) else (watchfireref29_Unquoted.j2 k x0 x4 x5 false)) else (none)) else (none))
def watchfireref29_Unquoted.j2 : Nat → ByteArray → List Int → Int → Bool → Option (ByteArray × Int)
  | 0, _, _, _, _ => none
  | k + 1, x0, x4, x5, x46 => if x46 = true then (if 0 ≤ (wrap64 (x5 + 1)) then (if (wrap64 (x5 + 1)) < (x0.size : Int) then ((watchfireref29_digit.f k (bt x0 (wrap64 (x5 + 1)))).bind fun t223 => (if 0 ≤ (wrap64 (x5 + 2)) then (if (wrap64 (x5 + 2)) < (x0.size : Int) then ((watchfireref29_digit.f k (bt x0 (wrap64 (x5 + 2)))).bind fun t224 => (if x4.length < 140737488355328 then (watchfireref29_Unquoted.l0 k x0 (x4 ++ [(wrap64 ((wrap64 (16 * t223)) + t224)) % 256]) (wrap64 (x5 + 3))) else (none))) else (none)) else (none))) else (none)) else (none)) else (if 0 ≤ x5 then (if x5 < (x0.size : Int) then (if (bt x0 x5) = 13 then (if (wrap64 (x5 + 1)) < (x0.size : Int) then (if 0 ≤ (wrap64 (x5 + 1)) then (if (bt x0 (wrap64 (x5 + 1))) = 10 then (if x4.length < 140737488355328 then (watchfireref29_Unquoted.l0 k x0 (x4 ++ [10]) (wrap64 (x5 + 2))) else (none)) else (if x4.length < 140737488355328 then (watchfireref29_Unquoted.l0 k x0 (x4 ++ [bt x0 x5]) (wrap64 (x5 + 1))) else (none))) else (none)) else (if x4.length < 140737488355328 then (watchfireref29_Unquoted.l0 k x0 (x4 ++ [bt x0 x5]) (wrap64 (x5 + 1))) else (none))) else (if x4.length < 140737488355328 then (watchfireref29_Unquoted.l0 k x0 (x4 ++ [bt x0 x5]) (wrap64 (x5 + 1))) else (none))) else (none)) else (none))
end
def watchfireref29_Unquoted.f (k : Nat) (a0 : ByteArray) : Option (ByteArray × Int) := watchfireref29_Unquoted.l0 k a0 ([] : List Int) 0
theorem watchfireref29_Unquoted.mono_l : ∀ k, (∀ y0 y1 y2, LeO (watchfireref29_Unquoted.l0 k y0 y1 y2) (watchfireref29_Unquoted.l0 (k + 1) y0 y1 y2)) ∧ (∀ y0 y1 y2 y3, LeO (watchfireref29_Unquoted.j1 k y0 y1 y2 y3) (watchfireref29_Unquoted.j1 (k + 1) y0 y1 y2 y3)) ∧ (∀ y0 y1 y2 y3, LeO (watchfireref29_Unquoted.j2 k y0 y1 y2 y3) (watchfireref29_Unquoted.j2 (k + 1) y0 y1 y2 y3))
  | 0 => ⟨fun _ _ _ r h => by simp [watchfireref29_Unquoted.l0] at h, fun _ _ _ _ r h => by simp [watchfireref29_Unquoted.j1] at h, fun _ _ _ _ r h => by simp [watchfireref29_Unquoted.j2] at h⟩
  | k + 1 => by
    obtain ⟨ih0, ih1, ih2⟩ := watchfireref29_Unquoted.mono_l k
    refine ⟨?_, ?_, ?_⟩
    · intro y0 y1 y2
      unfold watchfireref29_Unquoted.l0
      repeat' first
      | (with_reducible exact ih0 _ _ _)
      | (with_reducible exact ih1 _ _ _ _)
      | (with_reducible exact ih2 _ _ _ _)
      | (with_reducible exact watchfireref29_Quoted.mono _ _)
      | (with_reducible exact watchfireref29_digit.mono _ _)
      | (with_reducible exact LeO.refl _)
      | (with_reducible exact LeO.none _)
      | (with_reducible refine LeO.ite ?_ ?_)
      | (with_reducible refine LeO.bind ?_ (fun _ => ?_))
      | exact ih0 _ _ _
      | exact ih1 _ _ _ _
      | exact ih2 _ _ _ _
      | exact watchfireref29_Quoted.mono _ _
      | exact watchfireref29_digit.mono _ _
      | exact LeO.none _
      | refine LeO.ite ?_ ?_
      | refine LeO.bind ?_ (fun _ => ?_)
    · intro y0 y1 y2 y3
      unfold watchfireref29_Unquoted.j1
      repeat' first
      | (with_reducible exact ih0 _ _ _)
      | (with_reducible exact ih1 _ _ _ _)
      | (with_reducible exact ih2 _ _ _ _)
      | (with_reducible exact watchfireref29_Quoted.mono _ _)
      | (with_reducible exact watchfireref29_digit.mono _ _)
      | (with_reducible exact LeO.refl _)
      | (with_reducible exact LeO.none _)
      | (with_reducible refine LeO.ite ?_ ?_)
      | (with_reducible refine LeO.bind ?_ (fun _ => ?_))
      | exact ih0 _ _ _
      | exact ih1 _ _ _ _
      | exact ih2 _ _ _ _
      | exact watchfireref29_Quoted.mono _ _
      | exact watchfireref29_digit.mono _ _
      | exact LeO.none _
      | refine LeO.ite ?_ ?_
      | refine LeO.bind ?_ (fun _ => ?_)
    · intro y0 y1 y2 y3
      unfold watchfireref29_Unquoted.j2
      repeat' first
      | (with_reducible exact ih0 _ _ _)
      | (with_reducible exact ih1 _ _ _ _)
      | (with_reducible exact ih2 _ _ _ _)
      | (with_reducible exact watchfireref29_Quoted.mono _ _)
      | (with_reducible exact watchfireref29_digit.mono _ _)
      | (with_reducible exact LeO.refl _)
      | (with_reducible exact LeO.none _)
      | (with_reducible refine LeO.ite ?_ ?_)
      | (with_reducible refine LeO.bind ?_ (fun _ => ?_))
      | exact ih0 _ _ _
      | exact ih1 _ _ _ _
      | exact ih2 _ _ _ _
      | exact watchfireref29_Quoted.mono _ _
      | exact watchfireref29_digit.mono _ _
      | exact LeO.none _
      | refine LeO.ite ?_ ?_
      | refine LeO.bind ?_ (fun _ => ?_)
theorem watchfireref29_Unquoted.mono : ∀ a0 k, LeO (watchfireref29_Unquoted.f k a0) (watchfireref29_Unquoted.f (k + 1) a0) := by
  intro a0 k
  obtain ⟨ih0, ih1, ih2⟩ := watchfireref29_Unquoted.mono_l k
  unfold watchfireref29_Unquoted.f
  repeat' first
      | (with_reducible exact ih0 _ _ _)
      | (with_reducible exact ih1 _ _ _ _)
      | (with_reducible exact ih2 _ _ _ _)
      | (with_reducible exact watchfireref29_Quoted.mono _ _)
      | (with_reducible exact watchfireref29_digit.mono _ _)
      | (with_reducible exact LeO.refl _)
      | (with_reducible exact LeO.none _)
      | (with_reducible refine LeO.ite ?_ ?_)
      | (with_reducible refine LeO.bind ?_ (fun _ => ?_))
      | exact ih0 _ _ _
      | exact ih1 _ _ _ _
      | exact ih2 _ _ _ _
      | exact watchfireref29_Quoted.mono _ _
      | exact watchfireref29_digit.mono _ _
      | exact LeO.none _
      | refine LeO.ite ?_ ?_
      | refine LeO.bind ?_ (fun _ => ?_)
def watchfireref29_Unquoted.T9 : Bool × List (List Nat × List Nat) := (true, [([], []), ([], []), ([], []), ([2], [2]), ([1, 3], [1, 3]), ([4], [4]), ([5], [5]), ([], []), ([], []), ([8], [8]), ([7, 9], [7, 9]), ([10, 5], [10]), ([6, 11], [6, 11]), ([12], [12]), ([13], [13]), ([0, 14, 11], [0, 14]), ([15, 15, 0, 1, 2, 3, 4, 5, 6, 7, 8, 9, 10, 11, 12, 13, 14, 15], [0, 15])])
def watchfireref29_Unquoted.B9 : List Nat := [0, 0, 0, 4, 14, 30, 62, 0, 0, 256, 896, 1982, 4094, 8190, 16382, 32767, 65535]
theorem watchfireref29_Unquoted.tab9 : rtab .any (opsOf Tryz.f32 9) = watchfireref29_Unquoted.T9 := by kernel_rfl
theorem watchfireref29_Unquoted.bits9 : waitsOk watchfireref29_Unquoted.T9.2 watchfireref29_Unquoted.B9 = true := by kernel_rfl
set_option maxHeartbeats 8000000 in
set_option maxRecDepth 100000 in
theorem watchfireref29_Unquoted.calls (k : Nat) (a0 : ByteArray) (r1 : ByteArray) (r2 : Int) (w : World) (h : watchfireref29_Unquoted.f k a0 = some (r1, r2)) :
    Calls Tryz.prog 32 #[.string a0] w fun e w' => e = .returned (.tuple #[.string r1, .int .i64 r2]) ∧ Below w.heap.size w w' := by
  have HB := Aside0.mk (Below.refl w.heap.size w)
  have H : (watchfireref29_Unquoted.l0 k a0 ([] : List Int) 0) = some (r1, r2) := h
  clear h
  have H' := Aside0.mk H
  clear H
  go_enter Tryz.func32, Tryz.ntmps32
  go_wp2
  go_loopg [4, 5] k (fun kq v4 v5 w' => ∃ (x4_1 : List Int) (x5_1 : Int), v5 = .int .i64 x5_1 ∧ Aside0 (watchfireref29_Unquoted.l0 kq a0 x4_1 x5_1 = some (r1, r2)) ∧ Aside0 (kq ≤ k) ∧ Aside0 (Kd.R (Kd.int .u8) 5 w' w.heap.size (fun _ => True) v4 x4_1) ∧ Aside0 (Below w.heap.size w w'))
  case atStart => exact ⟨(([] : List Int)), (0), (by first | rfl | (simp; done) | (simp [*]; done)), H', ⟨Nat.le_refl _⟩, ⟨by first | exact Kd.R_nil _ _ _ _ _ | exact Kd.N_nil _ _ _ _ _ | exact Kd.V_nil _ _ _ _ _ | exact Kd.Q_nil _ _ _ _ _ | exact Kd.S_nil _ _ _ _ _⟩, ⟨by repeat (first | (with_reducible first | exact HB.out | apply below_alloc | apply pw_below_drewN | apply below_drew1) | exact HB.out)⟩⟩
  case round =>
    clear H'
    obtain ⟨x4_1, x5_1, rfl, HA, HK1, HO_4, HB⟩ := hrel
    cases gk with
    | zero => exact absurd HA.out (by simp [watchfireref29_Unquoted.l0])
    | succ k1 =>
      have H := HA.out
      clear HA
      simp only [watchfireref29_Unquoted.l0] at H
      by_cases c2 : x5_1 < (a0.size : Int)
      · rw [if_pos c2] at H
        have c2b0 : decide (x5_1 < (a0.size : Int)) = true := decide_eq_true c2
        clear c2
        have HC3 := Aside0.mk H
        clear H
        go_upto_region 6 with (fail)
        go_cut [18] (fun v18 wc => ∃ (kq : Nat) (x18_2 : Bool), v18 = .bool x18_2 ∧ Aside0 (watchfireref29_Unquoted.j1 kq a0 x4_1 x5_1 x18_2 = some (r1, r2)) ∧ Aside0 (kq ≤ k1) ∧ Aside0 (Kd.R (Kd.int .u8) 5 wc w.heap.size (fun _ => True) u4 x4_1) ∧ Aside0 (Below w.heap.size w wc))
        case first =>
          have H := HC3.out
          clear HC3
          by_cases c4 : 0 ≤ x5_1
          · rw [if_pos c4] at H
            have c4b0 : decide (0 ≤ x5_1) = true := decide_eq_true c4
            clear c4
            (first | rw [c4b0] | (simp only [i64_w, i32_w]; rw [c4b0]) | skip)
            by_cases c6 : (bt a0 x5_1) = 61
            · rw [if_pos c6] at H
              have c6b0 : ((bt a0 x5_1) == 61) = true := beq_iff_eq.mpr c6
              have c6b1 : ((bt a0 x5_1) != 61) = false := bne_eq_false_iff_eq.mpr c6
              clear c6
              by_cases c7 : (wrap64 (x5_1 + 2)) < (a0.size : Int)
              · rw [if_pos c7] at H
                have c7b0 : decide ((wrap64 (x5_1 + 2)) < (a0.size : Int)) = true := decide_eq_true c7
                clear c7
                obtain ⟨ji8, hji8⟩ : ∃ j_ : Int, (wrap64 (x5_1 + 1)) = j_ := ⟨_, rfl⟩
                replace H : (if 0 ≤ (ji8) then (if (ji8) < (a0.size : Int) then (if (bt a0 (ji8)) = 13 then (if 0 ≤ (wrap64 (x5_1 + 2)) then (watchfireref29_Unquoted.j1 k1 a0 x4_1 x5_1 ((bt a0 (wrap64 (x5_1 + 2))) == 10)) else (none)) else (watchfireref29_Unquoted.j1 k1 a0 x4_1 x5_1 false)) else (none)) else (none)) = some (r1, r2) := by first | (rw [hji8] at H; exact H) | (simp only [hji8] at H ⊢; exact H)
                have hji8w : (IntKind.i64.wrap (x5_1 + 1)) = ji8 := (i64_w _).trans hji8
                by_cases c9 : 0 ≤ (ji8)
                · rw [if_pos c9] at H
                  have c9b0 : decide (0 ≤ (ji8)) = true := decide_eq_true c9
                  clear c9
                  by_cases c10 : (ji8) < (a0.size : Int)
                  · rw [if_pos c10] at H
                    have c10b0 : decide ((ji8) < (a0.size : Int)) = true := decide_eq_true c10
                    clear c10
                    by_cases c12 : (bt a0 (ji8)) = 13
                    · rw [if_pos c12] at H
                      have c12b0 : ((bt a0 (ji8)) == 13) = true := beq_iff_eq.mpr c12
                      have c12b1 : ((bt a0 (ji8)) != 13) = false := bne_eq_false_iff_eq.mpr c12
                      clear c12
                      obtain ⟨ji13, hji13⟩ : ∃ j_ : Int, (wrap64 (x5_1 + 2)) = j_ := ⟨_, rfl⟩
                      replace H : (if 0 ≤ (ji13) then (watchfireref29_Unquoted.j1 k1 a0 x4_1 x5_1 ((bt a0 (ji13)) == 10)) else (none)) = some (r1, r2) := by first | (rw [hji13] at H; exact H) | (simp only [hji13] at H ⊢; exact H)
                      (try rw [hji13] at c7b0)
                      have hji13w : (IntKind.i64.wrap (x5_1 + 2)) = ji13 := (i64_w _).trans hji13
                      by_cases c14 : 0 ≤ (ji13)
                      · rw [if_pos c14] at H
                        have c14b0 : decide (0 ≤ (ji13)) = true := decide_eq_true c14
                        clear c14
                        have H' := Aside0.mk H
                        clear H
                        have p5 : 0 ≤ (x5_1 : Int) := of_decide_eq_true (by first | (with_reducible assumption) | assumption)
                        have q5 : x5_1 < (a0.size : Int) := of_decide_eq_true (by first | (with_reducible assumption) | assumption)
                        have hx5 := bt_at a0 x5_1
                        replace p5 := eq_true p5
                        replace q5 := eq_true q5
                        have p11 : 0 ≤ ((ji8) : Int) := of_decide_eq_true (by first | (with_reducible assumption) | assumption)
                        have q11 : (ji8) < (a0.size : Int) := of_decide_eq_true (by first | (with_reducible assumption) | assumption)
                        have hx11 := bt_at a0 (ji8)
                        replace p11 := eq_true p11
                        replace q11 := eq_true q11
                        have p15 : 0 ≤ ((ji13) : Int) := of_decide_eq_true (by first | (with_reducible assumption) | assumption)
                        have q15 : (ji13) < (a0.size : Int) := of_decide_eq_true (by first | (with_reducible assumption) | assumption)
                        have hx15 := bt_at a0 (ji13)
                        replace p15 := eq_true p15
                        replace q15 := eq_true q15
                        go_wp2
                        go_meet
                        case rel => exact ⟨_, (((bt a0 (ji13)) == 10)), (by first | rfl | (simp; done) | (simp only [← hji13] <;> (first | rfl | simp)) | (simp [*]; done)), H', ⟨by have := HK1.out; first | omega | exact Nat.le_refl _⟩, ⟨by (with_reducible repeat (first | apply Kd.R_alloc | apply Kd.R_drewN | apply Kd.R_drew)); exact HO_4.out⟩, ⟨by repeat (first | (with_reducible first | exact HB.out | apply below_alloc | apply pw_below_drewN | apply below_drew1) | exact HB.out)⟩⟩
                      · rw [if_neg c14] at H
                        exact absurd H (by simp)
                    · rw [if_neg c12] at H
                      have c12b0 : ((bt a0 (ji8)) == 13) = false := beq_eq_false_iff_ne.mpr c12
                      have c12b1 : ((bt a0 (ji8)) != 13) = true := bne_iff_ne.mpr c12
                      have H' := Aside0.mk H
                      clear H
                      have p5 : 0 ≤ (x5_1 : Int) := of_decide_eq_true (by first | (with_reducible assumption) | assumption)
                      have q5 : x5_1 < (a0.size : Int) := of_decide_eq_true (by first | (with_reducible assumption) | assumption)
                      have hx5 := bt_at a0 x5_1
                      replace p5 := eq_true p5
                      replace q5 := eq_true q5
                      have p11 : 0 ≤ ((ji8) : Int) := of_decide_eq_true (by first | (with_reducible assumption) | assumption)
                      have q11 : (ji8) < (a0.size : Int) := of_decide_eq_true (by first | (with_reducible assumption) | assumption)
                      have hx11 := bt_at a0 (ji8)
                      replace p11 := eq_true p11
                      replace q11 := eq_true q11
                      go_wp2
                      go_meet
                      case rel => exact ⟨_, (false), (by first | rfl | (simp; done) | (simp [*]; done)), H', ⟨by have := HK1.out; first | omega | exact Nat.le_refl _⟩, ⟨by (with_reducible repeat (first | apply Kd.R_alloc | apply Kd.R_drewN | apply Kd.R_drew)); exact HO_4.out⟩, ⟨by repeat (first | (with_reducible first | exact HB.out | apply below_alloc | apply pw_below_drewN | apply below_drew1) | exact HB.out)⟩⟩
                  · rw [if_neg c10] at H
                    exact absurd H (by simp)
                · rw [if_neg c9] at H
                  exact absurd H (by simp)
              · rw [if_neg c7] at H
                have c7b0 : decide ((wrap64 (x5_1 + 2)) < (a0.size : Int)) = false := decide_eq_false c7
                clear c7
                have H' := Aside0.mk H
                clear H
                have p5 : 0 ≤ (x5_1 : Int) := of_decide_eq_true (by first | (with_reducible assumption) | assumption)
                have q5 : x5_1 < (a0.size : Int) := of_decide_eq_true (by first | (with_reducible assumption) | assumption)
                have hx5 := bt_at a0 x5_1
                replace p5 := eq_true p5
                replace q5 := eq_true q5
                go_wp2
                go_meet
                case rel => exact ⟨_, (false), (by first | rfl | (simp; done) | (simp [*]; done)), H', ⟨by have := HK1.out; first | omega | exact Nat.le_refl _⟩, ⟨by (with_reducible repeat (first | apply Kd.R_alloc | apply Kd.R_drewN | apply Kd.R_drew)); exact HO_4.out⟩, ⟨by repeat (first | (with_reducible first | exact HB.out | apply below_alloc | apply pw_below_drewN | apply below_drew1) | exact HB.out)⟩⟩
            · rw [if_neg c6] at H
              have c6b0 : ((bt a0 x5_1) == 61) = false := beq_eq_false_iff_ne.mpr c6
              have c6b1 : ((bt a0 x5_1) != 61) = true := bne_iff_ne.mpr c6
              have H' := Aside0.mk H
              clear H
              have p5 : 0 ≤ (x5_1 : Int) := of_decide_eq_true (by first | (with_reducible assumption) | assumption)
              have q5 : x5_1 < (a0.size : Int) := of_decide_eq_true (by first | (with_reducible assumption) | assumption)
              have hx5 := bt_at a0 x5_1
              replace p5 := eq_true p5
              replace q5 := eq_true q5
              go_wp2
              go_meet
              case rel => exact ⟨_, (false), (by first | rfl | (simp; done) | (simp [*]; done)), H', ⟨by have := HK1.out; first | omega | exact Nat.le_refl _⟩, ⟨by (with_reducible repeat (first | apply Kd.R_alloc | apply Kd.R_drewN | apply Kd.R_drew)); exact HO_4.out⟩, ⟨by repeat (first | (with_reducible first | exact HB.out | apply below_alloc | apply pw_below_drewN | apply below_drew1) | exact HB.out)⟩⟩
          · rw [if_neg c4] at H
            exact absurd H (by simp)
        case rest =>
          clear HC3
          try clear c1
          try clear p1
          try clear q1
          try clear hx1
          try clear c2
          try clear c2b0
          try clear p2
          try clear c3
          try clear c4
          try clear c4b0
          try clear p5
          try clear q5
          try clear hx5
          try clear c6
          try clear c6b0
          try clear c6b1
          try clear p6
          try clear c7
          try clear c7b0
          try clear c9
          try clear c9b0
          try clear c10
          try clear c10b0
          try clear p11
          try clear q11
          try clear hx11
          try clear c12
          try clear c12b0
          try clear c12b1
          try clear c14
          try clear c14b0
          try clear p15
          try clear q15
          try clear hx15
          try clear p11
          try clear p15
          try clear p5
          try clear q11
          try clear q15
          try clear q5
          obtain ⟨kq, x18_2, rfl, HA, HJ2, HO_4, HB⟩ := hcut
          cases kq with
          | zero => exact absurd HA.out (by simp [watchfireref29_Unquoted.j1])
          | succ kj2 =>
            have H := HA.out
            clear HA
            simp only [watchfireref29_Unquoted.j1] at H
            by_cases c16 : x18_2 = true
            · subst c16
              have H1 : (watchfireref29_Unquoted.l0 kj2 a0 x4_1 (wrap64 (x5_1 + 3))) = some (r1, r2) := by rw [if_pos rfl] at H; exact H
              clear H
              have H := H1
              clear H1
              have H' := Aside0.mk H
              clear H
              go_wp2
              go_roundg kj2
              case measure => have := HK1.out; have := HJ2.out; omega
              case rel => exact ⟨(x4_1), (wrap64 (x5_1 + 3)), (by first | rfl | (simp; done) | (simp [*]; done)), H', ⟨by have := HK1.out; have := HJ2.out; omega⟩, ⟨by (with_reducible repeat (first | apply Kd.R_alloc | apply Kd.R_drewN | apply Kd.R_drew)); exact HO_4.out⟩, ⟨by repeat (first | (with_reducible first | exact HB.out | apply below_alloc | apply pw_below_drewN | apply below_drew1) | exact HB.out)⟩⟩
            · replace c16 := Bool.eq_false_iff.mpr c16
              subst c16
              have H1 : (if 0 ≤ x5_1 then (if x5_1 < (a0.size : Int) then (if (bt a0 x5_1) = 61 then (if (wrap64 (x5_1 + 2)) < (a0.size : Int) then (if 0 ≤ (wrap64 (x5_1 + 1)) then (if (wrap64 (x5_1 + 1)) < (a0.size : Int) then ((watchfireref29_digit.f kj2 (bt a0 (wrap64 (x5_1 + 1)))).bind fun t221 => (if t221 < 16 then (if 0 ≤ (wrap64 (x5_1 + 2)) then ((watchfireref29_digit.f kj2 (bt a0 (wrap64 (x5_1 + 2)))).bind fun t222 => (watchfireref29_Unquoted.j2 kj2 a0 x4_1 x5_1 (decide (t222 < 16)))) else (none)) else (watchfireref29_Unquoted.j2 kj2 a0 x4_1 x5_1 false))) else (none)) else (none)) else (watchfireref29_Unquoted.j2 kj2 a0 x4_1 x5_1 false)) else (watchfireref29_Unquoted.j2 kj2 a0 x4_1 x5_1 false)) else (none)) else (none)) = some (r1, r2) := by rw [if_neg (show ¬ (false = true) by decide)] at H; exact H
              clear H
              have H := H1
              clear H1
              have HC17 := Aside0.mk H
              clear H
              go_upto_region 8 with (fail)
              go_cut [46] (fun v46 wc => ∃ (kq : Nat) (x46_16 : Bool), v46 = .bool x46_16 ∧ Aside0 (watchfireref29_Unquoted.j2 kq a0 x4_1 x5_1 x46_16 = some (r1, r2)) ∧ Aside0 (kq ≤ kj2) ∧ Aside0 (Kd.R (Kd.int .u8) 5 wc w.heap.size (fun _ => True) u4 x4_1) ∧ Aside0 (Below w.heap.size w wc))
              case first =>
                have H := HC17.out
                clear HC17
                by_cases c18 : 0 ≤ x5_1
                · rw [if_pos c18] at H
                  have c18b0 : decide (0 ≤ x5_1) = true := decide_eq_true c18
                  clear c18
                  (first | rw [c18b0] | (simp only [i64_w, i32_w]; rw [c18b0]) | skip)
                  by_cases c19 : x5_1 < (a0.size : Int)
                  · rw [if_pos c19] at H
                    have c19b0 : decide (x5_1 < (a0.size : Int)) = true := decide_eq_true c19
                    clear c19
                    by_cases c21 : (bt a0 x5_1) = 61
                    · rw [if_pos c21] at H
                      have c21b0 : ((bt a0 x5_1) == 61) = true := beq_iff_eq.mpr c21
                      have c21b1 : ((bt a0 x5_1) != 61) = false := bne_eq_false_iff_eq.mpr c21
                      clear c21
                      by_cases c22 : (wrap64 (x5_1 + 2)) < (a0.size : Int)
                      · rw [if_pos c22] at H
                        have c22b0 : decide ((wrap64 (x5_1 + 2)) < (a0.size : Int)) = true := decide_eq_true c22
                        clear c22
                        obtain ⟨ji23, hji23⟩ : ∃ j_ : Int, (wrap64 (x5_1 + 1)) = j_ := ⟨_, rfl⟩
                        replace H : (if 0 ≤ (ji23) then (if (ji23) < (a0.size : Int) then ((watchfireref29_digit.f kj2 (bt a0 (ji23))).bind fun t221 => (if t221 < 16 then (if 0 ≤ (wrap64 (x5_1 + 2)) then ((watchfireref29_digit.f kj2 (bt a0 (wrap64 (x5_1 + 2)))).bind fun t222 => (watchfireref29_Unquoted.j2 kj2 a0 x4_1 x5_1 (decide (t222 < 16)))) else (none)) else (watchfireref29_Unquoted.j2 kj2 a0 x4_1 x5_1 false))) else (none)) else (none)) = some (r1, r2) := by first | (rw [hji23] at H; exact H) | (simp only [hji23] at H ⊢; exact H)
                        have hji23w : (IntKind.i64.wrap (x5_1 + 1)) = ji23 := (i64_w _).trans hji23
                        by_cases c24 : 0 ≤ (ji23)
                        · rw [if_pos c24] at H
                          have c24b0 : decide (0 ≤ (ji23)) = true := decide_eq_true c24
                          clear c24
                          by_cases c25 : (ji23) < (a0.size : Int)
                          · rw [if_pos c25] at H
                            have c25b0 : decide ((ji23) < (a0.size : Int)) = true := decide_eq_true c25
                            clear c25
                            replace H := Option.bind_eq_some_iff.mp H
                            obtain ⟨t221, A270, H⟩ := H
                            replace H : (if t221 < 16 then (if 0 ≤ (wrap64 (x5_1 + 2)) then ((watchfireref29_digit.f kj2 (bt a0 (wrap64 (x5_1 + 2)))).bind fun t222 => (watchfireref29_Unquoted.j2 kj2 a0 x4_1 x5_1 (decide (t222 < 16)))) else (none)) else (watchfireref29_Unquoted.j2 kj2 a0 x4_1 x5_1 false)) = some (r1, r2) := H
                            have A27 := Aside0.mk A270
                            clear A270
                            by_cases c28 : t221 < 16
                            · rw [if_pos c28] at H
                              have c28b0 : decide (t221 < 16) = true := decide_eq_true c28
                              clear c28
                              obtain ⟨ji29, hji29⟩ : ∃ j_ : Int, (wrap64 (x5_1 + 2)) = j_ := ⟨_, rfl⟩
                              replace H : (if 0 ≤ (ji29) then ((watchfireref29_digit.f kj2 (bt a0 (ji29))).bind fun t222 => (watchfireref29_Unquoted.j2 kj2 a0 x4_1 x5_1 (decide (t222 < 16)))) else (none)) = some (r1, r2) := by first | (rw [hji29] at H; exact H) | (simp only [hji29] at H ⊢; exact H)
                              (try rw [hji29] at c22b0)
                              (try rw [hji29] at A27)
                              have hji29w : (IntKind.i64.wrap (x5_1 + 2)) = ji29 := (i64_w _).trans hji29
                              by_cases c30 : 0 ≤ (ji29)
                              · rw [if_pos c30] at H
                                have c30b0 : decide (0 ≤ (ji29)) = true := decide_eq_true c30
                                clear c30
                                replace H := Option.bind_eq_some_iff.mp H
                                obtain ⟨t222, A320, H⟩ := H
                                replace H : (watchfireref29_Unquoted.j2 kj2 a0 x4_1 x5_1 (decide (t222 < 16))) = some (r1, r2) := H
                                have A32 := Aside0.mk A320
                                clear A320
                                have H' := Aside0.mk H
                                clear H
                                have p20 : 0 ≤ (x5_1 : Int) := of_decide_eq_true (by first | (with_reducible assumption) | assumption)
                                have q20 : x5_1 < (a0.size : Int) := of_decide_eq_true (by first | (with_reducible assumption) | assumption)
                                have hx20 := bt_at a0 x5_1
                                replace p20 := eq_true p20
                                replace q20 := eq_true q20
                                have p26 : 0 ≤ ((ji23) : Int) := of_decide_eq_true (by first | (with_reducible assumption) | assumption)
                                have q26 : (ji23) < (a0.size : Int) := of_decide_eq_true (by first | (with_reducible assumption) | assumption)
                                have hx26 := bt_at a0 (ji23)
                                replace p26 := eq_true p26
                                replace q26 := eq_true q26
                                go_wp2_with (first | (go_at_call 65; (with_reducible refine (watchfireref29_digit.calls kj2 (bt a0 (ji23)) t221 _ A27.out).mono ?_); rintro e w' ⟨rfl, ⟨nd, rfl⟩⟩; have p31 : 0 ≤ ((ji29) : Int) := of_decide_eq_true (by first | (with_reducible assumption) | assumption); have q31 : (ji29) < (a0.size : Int) := of_decide_eq_true (by first | (with_reducible assumption) | assumption); have hx31 := bt_at a0 (ji29); replace p31 := eq_true p31; replace q31 := eq_true q31) | (go_at_call 65; (with_reducible refine (watchfireref29_digit.calls kj2 (bt a0 (ji29)) t222 _ A32.out).mono ?_); rintro e w' ⟨rfl, ⟨nd, rfl⟩⟩))
                                go_meet
                                case rel => exact ⟨_, (decide (t222 < 16)), (by first | rfl | (simp; done) | (simp [*]; done)), H', ⟨by have := HK1.out; have := HJ2.out; first | omega | exact Nat.le_refl _⟩, ⟨by (with_reducible repeat (first | apply Kd.R_alloc | apply Kd.R_drewN | apply Kd.R_drew)); exact HO_4.out⟩, ⟨by repeat (first | (with_reducible first | exact HB.out | apply below_alloc | apply pw_below_drewN | apply below_drew1) | exact HB.out)⟩⟩
                              · rw [if_neg c30] at H
                                exact absurd H (by simp)
                            · rw [if_neg c28] at H
                              have c28b0 : decide (t221 < 16) = false := decide_eq_false c28
                              clear c28
                              have H' := Aside0.mk H
                              clear H
                              have p20 : 0 ≤ (x5_1 : Int) := of_decide_eq_true (by first | (with_reducible assumption) | assumption)
                              have q20 : x5_1 < (a0.size : Int) := of_decide_eq_true (by first | (with_reducible assumption) | assumption)
                              have hx20 := bt_at a0 x5_1
                              replace p20 := eq_true p20
                              replace q20 := eq_true q20
                              have p26 : 0 ≤ ((ji23) : Int) := of_decide_eq_true (by first | (with_reducible assumption) | assumption)
                              have q26 : (ji23) < (a0.size : Int) := of_decide_eq_true (by first | (with_reducible assumption) | assumption)
                              have hx26 := bt_at a0 (ji23)
                              replace p26 := eq_true p26
                              replace q26 := eq_true q26
                              go_wp2_with (first | (go_at_call 65; (with_reducible refine (watchfireref29_digit.calls kj2 (bt a0 (ji23)) t221 _ A27.out).mono ?_); rintro e w' ⟨rfl, ⟨nd, rfl⟩⟩))
                              go_meet
                              case rel => exact ⟨_, (false), (by first | rfl | (simp; done) | (simp [*]; done)), H', ⟨by have := HK1.out; have := HJ2.out; first | omega | exact Nat.le_refl _⟩, ⟨by (with_reducible repeat (first | apply Kd.R_alloc | apply Kd.R_drewN | apply Kd.R_drew)); exact HO_4.out⟩, ⟨by repeat (first | (with_reducible first | exact HB.out | apply below_alloc | apply pw_below_drewN | apply below_drew1) | exact HB.out)⟩⟩
                          · rw [if_neg c25] at H
                            exact absurd H (by simp)
                        · rw [if_neg c24] at H
                          exact absurd H (by simp)
                      · rw [if_neg c22] at H
                        have c22b0 : decide ((wrap64 (x5_1 + 2)) < (a0.size : Int)) = false := decide_eq_false c22
                        clear c22
                        have H' := Aside0.mk H
                        clear H
                        have p20 : 0 ≤ (x5_1 : Int) := of_decide_eq_true (by first | (with_reducible assumption) | assumption)
                        have q20 : x5_1 < (a0.size : Int) := of_decide_eq_true (by first | (with_reducible assumption) | assumption)
                        have hx20 := bt_at a0 x5_1
                        replace p20 := eq_true p20
                        replace q20 := eq_true q20
                        go_wp2
                        go_meet
                        case rel => exact ⟨_, (false), (by first | rfl | (simp; done) | (simp [*]; done)), H', ⟨by have := HK1.out; have := HJ2.out; first | omega | exact Nat.le_refl _⟩, ⟨by (with_reducible repeat (first | apply Kd.R_alloc | apply Kd.R_drewN | apply Kd.R_drew)); exact HO_4.out⟩, ⟨by repeat (first | (with_reducible first | exact HB.out | apply below_alloc | apply pw_below_drewN | apply below_drew1) | exact HB.out)⟩⟩
                    · rw [if_neg c21] at H
                      have c21b0 : ((bt a0 x5_1) == 61) = false := beq_eq_false_iff_ne.mpr c21
                      have c21b1 : ((bt a0 x5_1) != 61) = true := bne_iff_ne.mpr c21
                      have H' := Aside0.mk H
                      clear H
                      have p20 : 0 ≤ (x5_1 : Int) := of_decide_eq_true (by first | (with_reducible assumption) | assumption)
                      have q20 : x5_1 < (a0.size : Int) := of_decide_eq_true (by first | (with_reducible assumption) | assumption)
                      have hx20 := bt_at a0 x5_1
                      replace p20 := eq_true p20
                      replace q20 := eq_true q20
                      go_wp2
                      go_meet
                      case rel => exact ⟨_, (false), (by first | rfl | (simp; done) | (simp [*]; done)), H', ⟨by have := HK1.out; have := HJ2.out; first | omega | exact Nat.le_refl _⟩, ⟨by (with_reducible repeat (first | apply Kd.R_alloc | apply Kd.R_drewN | apply Kd.R_drew)); exact HO_4.out⟩, ⟨by repeat (first | (with_reducible first | exact HB.out | apply below_alloc | apply pw_below_drewN | apply below_drew1) | exact HB.out)⟩⟩
                  · rw [if_neg c19] at H
                    exact absurd H (by simp)
                · rw [if_neg c18] at H
                  exact absurd H (by simp)
              case rest =>
                clear HC17
                try clear c1
                try clear p1
                try clear q1
                try clear hx1
                try clear c2
                try clear c2b0
                try clear p2
                try clear q2
                try clear hx2
                try clear c3
                try clear p3
                try clear q3
                try clear hx3
                try clear c4
                try clear c4b0
                try clear p5
                try clear q5
                try clear hx5
                try clear c6
                try clear c6b0
                try clear c6b1
                try clear p6
                try clear c7
                try clear c7b0
                try clear c9
                try clear c9b0
                try clear c10
                try clear c10b0
                try clear p11
                try clear q11
                try clear hx11
                try clear c12
                try clear c12b0
                try clear c12b1
                try clear c14
                try clear c14b0
                try clear p15
                try clear q15
                try clear hx15
                try clear c16
                try clear c18
                try clear c18b0
                try clear c19
                try clear c19b0
                try clear p20
                try clear q20
                try clear hx20
                try clear c21
                try clear c21b0
                try clear c21b1
                try clear c22
                try clear c22b0
                try clear c24
                try clear c24b0
                try clear c25
                try clear c25b0
                try clear p26
                try clear q26
                try clear hx26
                try clear c28
                try clear c28b0
                try clear c30
                try clear c30b0
                try clear p31
                try clear q31
                try clear hx31
                try clear c32
                try clear p1
                try clear p11
                try clear p15
                try clear p2
                try clear p20
                try clear p26
                try clear p31
                try clear p5
                try clear p6
                try clear q1
                try clear q11
                try clear q15
                try clear q20
                try clear q26
                try clear q31
                try clear q5
                obtain ⟨kq, x46_16, rfl, HA, HJ16, HO_4, HB⟩ := hcut
                cases kq with
                | zero => exact absurd HA.out (by simp [watchfireref29_Unquoted.j2])
                | succ kj16 =>
                  have H := HA.out
                  clear HA
                  simp only [watchfireref29_Unquoted.j2] at H
                  by_cases c33 : x46_16 = true
                  · subst c33
                    have H1 : (if 0 ≤ (wrap64 (x5_1 + 1)) then (if (wrap64 (x5_1 + 1)) < (a0.size : Int) then ((watchfireref29_digit.f kj16 (bt a0 (wrap64 (x5_1 + 1)))).bind fun t223 => (if 0 ≤ (wrap64 (x5_1 + 2)) then (if (wrap64 (x5_1 + 2)) < (a0.size : Int) then ((watchfireref29_digit.f kj16 (bt a0 (wrap64 (x5_1 + 2)))).bind fun t224 => (if x4_1.length < 140737488355328 then (watchfireref29_Unquoted.l0 kj16 a0 (x4_1 ++ [(wrap64 ((wrap64 (16 * t223)) + t224)) % 256]) (wrap64 (x5_1 + 3))) else (none))) else (none)) else (none))) else (none)) else (none)) = some (r1, r2) := by rw [if_pos rfl] at H; exact H
                    clear H
                    have H := H1
                    clear H1
                    obtain ⟨ji34, hji34⟩ : ∃ j_ : Int, (wrap64 (x5_1 + 1)) = j_ := ⟨_, rfl⟩
                    replace H : (if 0 ≤ (ji34) then (if (ji34) < (a0.size : Int) then ((watchfireref29_digit.f kj16 (bt a0 (ji34))).bind fun t223 => (if 0 ≤ (wrap64 (x5_1 + 2)) then (if (wrap64 (x5_1 + 2)) < (a0.size : Int) then ((watchfireref29_digit.f kj16 (bt a0 (wrap64 (x5_1 + 2)))).bind fun t224 => (if x4_1.length < 140737488355328 then (watchfireref29_Unquoted.l0 kj16 a0 (x4_1 ++ [(wrap64 ((wrap64 (16 * t223)) + t224)) % 256]) (wrap64 (x5_1 + 3))) else (none))) else (none)) else (none))) else (none)) else (none)) = some (r1, r2) := by first | (rw [hji34] at H; exact H) | (simp only [hji34] at H ⊢; exact H)
                    have hji34w : (IntKind.i64.wrap (x5_1 + 1)) = ji34 := (i64_w _).trans hji34
                    by_cases c35 : 0 ≤ (ji34)
                    · rw [if_pos c35] at H
                      have c35b0 : decide (0 ≤ (ji34)) = true := decide_eq_true c35
                      clear c35
                      by_cases c36 : (ji34) < (a0.size : Int)
                      · rw [if_pos c36] at H
                        have c36b0 : decide ((ji34) < (a0.size : Int)) = true := decide_eq_true c36
                        clear c36
                        replace H := Option.bind_eq_some_iff.mp H
                        obtain ⟨t223, A380, H⟩ := H
                        replace H : (if 0 ≤ (wrap64 (x5_1 + 2)) then (if (wrap64 (x5_1 + 2)) < (a0.size : Int) then ((watchfireref29_digit.f kj16 (bt a0 (wrap64 (x5_1 + 2)))).bind fun t224 => (if x4_1.length < 140737488355328 then (watchfireref29_Unquoted.l0 kj16 a0 (x4_1 ++ [(wrap64 ((wrap64 (16 * t223)) + t224)) % 256]) (wrap64 (x5_1 + 3))) else (none))) else (none)) else (none)) = some (r1, r2) := H
                        have A38 := Aside0.mk A380
                        clear A380
                        obtain ⟨ji39, hji39⟩ : ∃ j_ : Int, (wrap64 (x5_1 + 2)) = j_ := ⟨_, rfl⟩
                        replace H : (if 0 ≤ (ji39) then (if (ji39) < (a0.size : Int) then ((watchfireref29_digit.f kj16 (bt a0 (ji39))).bind fun t224 => (if x4_1.length < 140737488355328 then (watchfireref29_Unquoted.l0 kj16 a0 (x4_1 ++ [(wrap64 ((wrap64 (16 * t223)) + t224)) % 256]) (wrap64 (x5_1 + 3))) else (none))) else (none)) else (none)) = some (r1, r2) := by first | (rw [hji39] at H; exact H) | (simp only [hji39] at H ⊢; exact H)
                        (try rw [hji39] at A38)
                        have hji39w : (IntKind.i64.wrap (x5_1 + 2)) = ji39 := (i64_w _).trans hji39
                        by_cases c40 : 0 ≤ (ji39)
                        · rw [if_pos c40] at H
                          have c40b0 : decide (0 ≤ (ji39)) = true := decide_eq_true c40
                          clear c40
                          by_cases c41 : (ji39) < (a0.size : Int)
                          · rw [if_pos c41] at H
                            have c41b0 : decide ((ji39) < (a0.size : Int)) = true := decide_eq_true c41
                            clear c41
                            replace H := Option.bind_eq_some_iff.mp H
                            obtain ⟨t224, A430, H⟩ := H
                            replace H : (if x4_1.length < 140737488355328 then (watchfireref29_Unquoted.l0 kj16 a0 (x4_1 ++ [(wrap64 ((wrap64 (16 * t223)) + t224)) % 256]) (wrap64 (x5_1 + 3))) else (none)) = some (r1, r2) := H
                            have A43 := Aside0.mk A430
                            clear A430
                            by_cases c44 : x4_1.length < 140737488355328
                            · rw [if_pos c44] at H
                              have LMc44 := Aside0.mk c44
                              clear c44
                              obtain ⟨y225, hy225⟩ : ∃ y_ : List Int, y_ = (x4_1 ++ [(wrap64 ((wrap64 (16 * t223)) + t224)) % 256]) := ⟨_, rfl⟩
                              replace H : (watchfireref29_Unquoted.l0 kj16 a0 y225 (wrap64 (x5_1 + 3))) = some (r1, r2) := by first | (rw [hy225]; with_reducible exact H) | (have H2_ := (Option.bind_some _ _).symm.trans H; rw [hy225]; with_reducible exact H2_) | (have H2_ := (Option.bind_some _ _).symm.trans H; with_reducible exact H2_) | with_reducible exact H | (rw [hy225]; exact H) | exact H
                              have Ny225 := Aside0.mk hy225
                              clear hy225
                              have H' := Aside0.mk H
                              clear H
                              try go_wp2
                              have n0_ := Aside0.mk (Kd.R_drew HO_4.out)
                              have n1_ := Aside0.mk (below_drew1 HB.out)
                              clear HO_4
                              clear HB
                              have HO_4 := n0_
                              have HB := n1_
                              clear n0_ n1_
                              have p37 : 0 ≤ ((ji34) : Int) := of_decide_eq_true (by first | (with_reducible assumption) | assumption)
                              have q37 : (ji34) < (a0.size : Int) := of_decide_eq_true (by first | (with_reducible assumption) | assumption)
                              have hx37 := bt_at a0 (ji34)
                              replace p37 := eq_true p37
                              replace q37 := eq_true q37
                              have p42 : 0 ≤ ((ji39) : Int) := of_decide_eq_true (by first | (with_reducible assumption) | assumption)
                              have q42 : (ji39) < (a0.size : Int) := of_decide_eq_true (by first | (with_reducible assumption) | assumption)
                              have hx42 := bt_at a0 (ji39)
                              replace p42 := eq_true p42
                              replace q42 := eq_true q42
                              refine start_ (n := 17) (S := fun w' => True) (ds := []) #[false, false, false, false, false, false, false, false, false, false, false, false, false, false, false, false, false] (by kernel_rfl) rfl rfl trivial (fun hHeld => ?_); refine with_tabW watchfireref29_Unquoted.tab9 watchfireref29_Unquoted.bits9 (fun HT_ HW_ => ?_)
                              generalize wc.drew = w45 at HO_4 HB hHeld ⊢
                              refine pure_ (i := 0) (N := some 74) (v := ?_) (a' := ?_) #[true, false, false, false, false, false, false, false, false, false, false, false, false, false, false, false, false] rfl rfl (any_of HT_.out (by kernel_rfl)) (fun _ _ _ h => h) (Or.inl ⟨by rfl, ?_⟩) ?_ ?_
                              rotate_left
                              · intro w'
                                go_simp
                                with_reducible rfl
                              rotate_left
                              · simp only [Act.put, List.setIfInBounds_toArray, List.set_cons_zero, List.set_cons_succ, i64_w, i32_w]
                                rfl
                              refine pure_ (i := 1) (N := some 75) (v := ?_) (a' := ?_) #[true, true, false, false, false, false, false, false, false, false, false, false, false, false, false, false, false] rfl rfl (any_of HT_.out (by kernel_rfl)) (fun _ _ _ h => h) (Or.inl ⟨by rfl, ?_⟩) ?_ ?_
                              rotate_left
                              · intro w'
                                go_simp
                                with_reducible rfl
                              rotate_left
                              · simp only [Act.put, List.setIfInBounds_toArray, List.set_cons_zero, List.set_cons_succ, i64_w, i32_w]
                                rfl
                              refine pure_ (i := 2) (N := some 76) (v := ?_) (a' := ?_) #[true, true, true, false, false, false, false, false, false, false, false, false, false, false, false, false, false] rfl rfl (any_of HT_.out (by kernel_rfl)) (fun _ _ _ h => h) (Or.inl ⟨by rfl, ?_⟩) ?_ ?_
                              rotate_left
                              · intro w'
                                go_simp
                                with_reducible rfl
                              rotate_left
                              · simp only [Act.put, List.setIfInBounds_toArray, List.set_cons_zero, List.set_cons_succ, i64_w, i32_w]
                                rfl
                              refine pure_ (i := 3) (N := some 77) (v := ?_) (a' := ?_) #[true, true, true, true, false, false, false, false, false, false, false, false, false, false, false, false, false] rfl rfl (any_of HT_.out (by kernel_rfl)) (fun _ _ _ h => h) (Or.inl ⟨by rfl, ?_⟩) ?_ ?_
                              rotate_left
                              · intro w'
                                go_simp
                                with_reducible rfl
                              rotate_left
                              · simp only [Act.put, List.setIfInBounds_toArray, List.set_cons_zero, List.set_cons_succ, i64_w, i32_w]
                                rfl
                              refine pure_ (i := 7) (N := some 81) (v := ?_) (a' := ?_) #[true, true, true, true, false, false, false, true, false, false, false, false, false, false, false, false, false] rfl rfl (any_of HT_.out (by kernel_rfl)) (fun _ _ _ h => h) (Or.inl ⟨by rfl, ?_⟩) ?_ ?_
                              rotate_left
                              · intro w'
                                go_simp
                                with_reducible rfl
                              rotate_left
                              · simp only [Act.put, List.setIfInBounds_toArray, List.set_cons_zero, List.set_cons_succ, i64_w, i32_w]
                                rfl
                              refine pure_ (i := 8) (N := some 82) (v := ?_) (a' := ?_) #[true, true, true, true, false, false, false, true, true, false, false, false, false, false, false, false, false] rfl rfl (any_of HT_.out (by kernel_rfl)) (fun _ _ _ h => h) (Or.inl ⟨by rfl, ?_⟩) ?_ ?_
                              rotate_left
                              · intro w'
                                go_simp
                                with_reducible rfl
                              rotate_left
                              · simp only [Act.put, List.setIfInBounds_toArray, List.set_cons_zero, List.set_cons_succ, i64_w, i32_w]
                                rfl
                              refine pure_ (i := 9) (N := some 83) (v := ?_) (a' := ?_) #[true, true, true, true, false, false, false, true, true, true, false, false, false, false, false, false, false] rfl rfl (any_of HT_.out (by kernel_rfl)) (fun _ _ _ h => h) (Or.inl ⟨by rfl, ?_⟩) ?_ ?_
                              rotate_left
                              · intro w'
                                go_simp
                                with_reducible rfl
                              rotate_left
                              · simp only [Act.put, List.setIfInBounds_toArray, List.set_cons_zero, List.set_cons_succ, i64_w, i32_w]
                                rfl
                              refine take_ (i := 4) (N := some 78) (v := ?_) (a' := ?_) #[true, true, true, true, true, false, false, true, true, true, false, false, false, false, false, false, false] rfl rfl (take_ofW HT_.out HW_.out (by kernel_rfl)) (fun _ _ _ h => h) (Or.inl ⟨by rfl, ?_⟩) hHeld ?_ ?_
                              rotate_left
                              · intro w' _
                                go_simp
                                with_reducible rfl
                              rotate_left
                              · simp only [Act.put, List.setIfInBounds_toArray, List.set_cons_zero, List.set_cons_succ, i64_w, i32_w]
                                rfl
                              refine take_ (i := 10) (N := some 84) (v := ?_) (a' := ?_) #[true, true, true, true, true, false, false, true, true, true, true, false, false, false, false, false, false] rfl rfl (take_ofW HT_.out HW_.out (by kernel_rfl)) (fun _ _ _ h => h) (Or.inl ⟨by rfl, ?_⟩) hHeld ?_ ?_
                              rotate_left
                              · intro w' _
                                go_simp
                                with_reducible rfl
                              rotate_left
                              · simp only [Act.put, List.setIfInBounds_toArray, List.set_cons_zero, List.set_cons_succ, i64_w, i32_w]
                                rfl
                              refine one_ (i := 5) (N := some 79) #[true, true, true, true, true, true, false, true, true, true, true, false, false, false, false, false, false] rfl rfl (one_of HT_.out (by kernel_rfl)) (by decide) (fun K hK => ?_)
                              refine goes_ Tryz.func65 (by kernel_rfl) rfl #[.int .u8 (bt a0 (ji34))] (by rfl) rfl rfl (by (try simp only [List.map_toArray, List.map_cons, List.map_nil]); first | done | (simp only [hji34]; rfl) | rfl | (simp only [List.length_drop, List.length_take]; rfl)) ?_
                              with_reducible refine (watchfireref29_digit.calls kj16 (bt a0 (ji34)) t223 _ A38.out).mono ?_
                              rintro e w' ⟨rfl, ⟨nd, rfl⟩⟩
                              refine ⟨_, rfl, ?_⟩
                              refine hK.out _ _ trivial (fun hHeld => ?_)
                              clear hK K
                              refine norm_ (a' := ?_) ?_ ?_
                              rotate_left
                              · show Act.put _ (some 79) _ = _
                                simp only [Act.put, List.setIfInBounds_toArray, List.set_cons_zero, List.set_cons_succ, i64_w, i32_w]
                                rfl
                              refine pure_ (i := 6) (N := some 80) (v := ?_) (a' := ?_) #[true, true, true, true, true, true, true, true, true, true, true, false, false, false, false, false, false] rfl rfl (any_of HT_.out (by kernel_rfl)) (fun _ _ _ h => h) (Or.inl ⟨by rfl, ?_⟩) ?_ ?_
                              rotate_left
                              · intro w'
                                go_simp
                                with_reducible rfl
                              rotate_left
                              · simp only [Act.put, List.setIfInBounds_toArray, List.set_cons_zero, List.set_cons_succ, i64_w, i32_w]
                                rfl
                              refine one_ (i := 11) (N := some 85) #[true, true, true, true, true, true, true, true, true, true, true, true, false, false, false, false, false] rfl rfl (one_of HT_.out (by kernel_rfl)) (by decide) (fun K hK => ?_)
                              refine goes_ Tryz.func65 (by kernel_rfl) rfl #[.int .u8 (bt a0 (ji39))] (by rfl) rfl rfl (by (try simp only [List.map_toArray, List.map_cons, List.map_nil]); first | done | (simp only [hji39]; rfl) | rfl | (simp only [List.length_drop, List.length_take]; rfl)) ?_
                              with_reducible refine (watchfireref29_digit.calls kj16 (bt a0 (ji39)) t224 _ A43.out).mono ?_
                              rintro e w' ⟨rfl, ⟨nd, rfl⟩⟩
                              refine ⟨_, rfl, ?_⟩
                              refine hK.out _ _ trivial (fun hHeld => ?_)
                              clear hK K
                              refine norm_ (a' := ?_) ?_ ?_
                              rotate_left
                              · show Act.put _ (some 85) _ = _
                                simp only [Act.put, List.setIfInBounds_toArray, List.set_cons_zero, List.set_cons_succ, i64_w, i32_w]
                                rfl
                              refine pure_ (i := 12) (N := some 86) (v := ?_) (a' := ?_) #[true, true, true, true, true, true, true, true, true, true, true, true, true, false, false, false, false] rfl rfl (any_of HT_.out (by kernel_rfl)) (fun _ _ _ h => h) (Or.inl ⟨by rfl, ?_⟩) ?_ ?_
                              rotate_left
                              · intro w'
                                go_simp
                                with_reducible rfl
                              rotate_left
                              · simp only [Act.put, List.setIfInBounds_toArray, List.set_cons_zero, List.set_cons_succ, i64_w, i32_w]
                                rfl
                              refine pure_ (i := 13) (N := some 87) (v := ?_) (a' := ?_) #[true, true, true, true, true, true, true, true, true, true, true, true, true, true, false, false, false] rfl rfl (any_of HT_.out (by kernel_rfl)) (fun _ _ _ h => h) (Or.inl ⟨by rfl, ?_⟩) ?_ ?_
                              rotate_left
                              · intro w'
                                go_simp
                                with_reducible rfl
                              rotate_left
                              · simp only [Act.put, List.setIfInBounds_toArray, List.set_cons_zero, List.set_cons_succ, i64_w, i32_w]
                                rfl
                              refine one_ (i := 14) (N := some 88) #[true, true, true, true, true, true, true, true, true, true, true, true, true, true, true, false, false] rfl rfl (one_of HT_.out (by kernel_rfl)) (by decide) (fun K hK => ?_)
                              refine value_ (w1 := ?_) (v := ?_) (by rfl) rfl ?_ ?_
                              rotate_left 2
                              · go_simp
                                constructor
                                · rfl
                                · rfl
                              refine hK.out _ _ trivial (fun hHeld => ?_)
                              clear hK K
                              refine norm_ (a' := ?_) ?_ ?_
                              rotate_left
                              · show Act.put _ (some 88) _ = _
                                simp only [Act.put, List.setIfInBounds_toArray, List.set_cons_zero, List.set_cons_succ, i64_w, i32_w]
                                rfl
                              refine one_ (i := 15) (N := some 89) #[true, true, true, true, true, true, true, true, true, true, true, true, true, true, true, true, false] rfl rfl (one_of HT_.out (by kernel_rfl)) (by decide) (fun K hK => ?_)
                              refine Kd.R_append_step (Kd.int .u8) (w0 := w) w.heap.size (by rfl) (.tmp 74) (.tmp 88) 84 5 (.int .u8 0) 1 rfl Tryz.underlying84 info5 rfl (by decide) (by omega) u4 x4_1 ((wrap64 ((wrap64 (16 * t223)) + t224)) % 256) [.int .u8 ((wrap64 ((wrap64 (16 * t223)) + t224)) % 256)] (fun _ => True) (fun _ => False) rfl rfl ?aP (fun _ hk => hk.elim) ?aF ?aO ?aB ?aS ?aL ?_
                              (case aP => exact rfl)
                              (case aB => exact (by repeat (first | (with_reducible first | exact HB.out | apply below_alloc | apply pw_below_drewN | apply below_drew1) | exact HB.out)))
                              (case aF => exact (fun _ _ => trivial))
                              (case aO => exact (by (with_reducible repeat (first | apply Kd.R_alloc | apply Kd.R_drewN | apply Kd.R_drew)); exact HO_4.out))
                              (case aS => exact (below_size (by repeat (first | (with_reducible first | exact HB.out | apply below_alloc | apply pw_below_drewN | apply below_drew1) | exact HB.out))))
                              (case aL => have := LMc44.out; omega)
                              intro v226 w46 ho hb hg hat
                              rw [← Ny225.out] at ho
                              have n0_ := Aside0.mk (hb)
                              have n1_ := Aside0.mk (ho)
                              clear HB
                              clear HO_4
                              have HB := n0_
                              have HO227 := n1_
                              clear n0_ n1_
                              clear ho hb hg hat
                              refine hK.out _ _ trivial (fun hHeld => ?_)
                              clear hK K
                              refine norm_ (a' := ?_) ?_ ?_
                              rotate_left
                              · show Act.put _ (some 89) _ = _
                                simp only [Act.put, List.setIfInBounds_toArray, List.set_cons_zero, List.set_cons_succ, i64_w, i32_w]
                                rfl
                              refine pure_ (i := 16) (N := some 4) (v := ?_) (a' := ?_) #[true, true, true, true, true, true, true, true, true, true, true, true, true, true, true, true, true] rfl rfl (any_of HT_.out (by kernel_rfl)) (fun _ _ _ h => h) (Or.inl ⟨by rfl, ?_⟩) ?_ ?_
                              rotate_left
                              · intro w'
                                go_simp
                                with_reducible rfl
                              rotate_left
                              · simp only [Act.put, List.setIfInBounds_toArray, List.set_cons_zero, List.set_cons_succ, i64_w, i32_w]
                                rfl
                              refine done_ (done_of HT_.out (by kernel_rfl)) ?_
                              try go_wp2
                              go_roundg kj16
                              case measure => have := HK1.out; have := HJ2.out; have := HJ16.out; omega
                              case rel => exact ⟨(y225), (wrap64 (x5_1 + 3)), (by first | rfl | (simp; done) | (simp [*]; done)), H', ⟨by have := HK1.out; have := HJ2.out; have := HJ16.out; omega⟩, ⟨by (with_reducible repeat (first | apply Kd.R_alloc | apply Kd.R_drewN | apply Kd.R_drew)); exact HO227.out⟩, ⟨by repeat (first | (with_reducible first | exact HB.out | apply below_alloc | apply pw_below_drewN | apply below_drew1) | exact HB.out)⟩⟩
                            · rw [if_neg c44] at H
                              exact absurd H (by simp)
                          · rw [if_neg c41] at H
                            exact absurd H (by simp)
                        · rw [if_neg c40] at H
                          exact absurd H (by simp)
                      · rw [if_neg c36] at H
                        exact absurd H (by simp)
                    · rw [if_neg c35] at H
                      exact absurd H (by simp)
                  · replace c33 := Bool.eq_false_iff.mpr c33
                    subst c33
                    have H1 : (if 0 ≤ x5_1 then (if x5_1 < (a0.size : Int) then (if (bt a0 x5_1) = 13 then (if (wrap64 (x5_1 + 1)) < (a0.size : Int) then (if 0 ≤ (wrap64 (x5_1 + 1)) then (if (bt a0 (wrap64 (x5_1 + 1))) = 10 then (if x4_1.length < 140737488355328 then (watchfireref29_Unquoted.l0 kj16 a0 (x4_1 ++ [10]) (wrap64 (x5_1 + 2))) else (none)) else (if x4_1.length < 140737488355328 then (watchfireref29_Unquoted.l0 kj16 a0 (x4_1 ++ [bt a0 x5_1]) (wrap64 (x5_1 + 1))) else (none))) else (none)) else (if x4_1.length < 140737488355328 then (watchfireref29_Unquoted.l0 kj16 a0 (x4_1 ++ [bt a0 x5_1]) (wrap64 (x5_1 + 1))) else (none))) else (if x4_1.length < 140737488355328 then (watchfireref29_Unquoted.l0 kj16 a0 (x4_1 ++ [bt a0 x5_1]) (wrap64 (x5_1 + 1))) else (none))) else (none)) else (none)) = some (r1, r2) := by rw [if_neg (show ¬ (false = true) by decide)] at H; exact H
                    clear H
                    have H := H1
                    clear H1
                    by_cases c47 : 0 ≤ x5_1
                    · rw [if_pos c47] at H
                      have c47b0 : decide (0 ≤ x5_1) = true := decide_eq_true c47
                      clear c47
                      by_cases c48 : x5_1 < (a0.size : Int)
                      · rw [if_pos c48] at H
                        have c48b0 : decide (x5_1 < (a0.size : Int)) = true := decide_eq_true c48
                        clear c48
                        by_cases c50 : (bt a0 x5_1) = 13
                        · rw [if_pos c50] at H
                          have c50b0 : ((bt a0 x5_1) == 13) = true := beq_iff_eq.mpr c50
                          have c50b1 : ((bt a0 x5_1) != 13) = false := bne_eq_false_iff_eq.mpr c50
                          clear c50
                          by_cases c51 : (wrap64 (x5_1 + 1)) < (a0.size : Int)
                          · rw [if_pos c51] at H
                            have c51b0 : decide ((wrap64 (x5_1 + 1)) < (a0.size : Int)) = true := decide_eq_true c51
                            clear c51
                            obtain ⟨ji52, hji52⟩ : ∃ j_ : Int, (wrap64 (x5_1 + 1)) = j_ := ⟨_, rfl⟩
                            replace H : (if 0 ≤ (ji52) then (if (bt a0 (ji52)) = 10 then (if x4_1.length < 140737488355328 then (watchfireref29_Unquoted.l0 kj16 a0 (x4_1 ++ [10]) (wrap64 (x5_1 + 2))) else (none)) else (if x4_1.length < 140737488355328 then (watchfireref29_Unquoted.l0 kj16 a0 (x4_1 ++ [bt a0 x5_1]) ji52) else (none))) else (none)) = some (r1, r2) := by first | (rw [hji52] at H; exact H) | (simp only [hji52] at H ⊢; exact H)
                            (try rw [hji52] at c51b0)
                            have hji52w : (IntKind.i64.wrap (x5_1 + 1)) = ji52 := (i64_w _).trans hji52
                            by_cases c53 : 0 ≤ (ji52)
                            · rw [if_pos c53] at H
                              have c53b0 : decide (0 ≤ (ji52)) = true := decide_eq_true c53
                              clear c53
                              by_cases c55 : (bt a0 (ji52)) = 10
                              · rw [if_pos c55] at H
                                have c55b0 : ((bt a0 (ji52)) == 10) = true := beq_iff_eq.mpr c55
                                have c55b1 : ((bt a0 (ji52)) != 10) = false := bne_eq_false_iff_eq.mpr c55
                                clear c55
                                by_cases c56 : x4_1.length < 140737488355328
                                · rw [if_pos c56] at H
                                  have LMc56 := Aside0.mk c56
                                  clear c56
                                  obtain ⟨y228, hy228⟩ : ∃ y_ : List Int, y_ = (x4_1 ++ [10]) := ⟨_, rfl⟩
                                  replace H : (watchfireref29_Unquoted.l0 kj16 a0 y228 (wrap64 (x5_1 + 2))) = some (r1, r2) := by first | (rw [hy228]; with_reducible exact H) | (have H2_ := (Option.bind_some _ _).symm.trans H; rw [hy228]; with_reducible exact H2_) | (have H2_ := (Option.bind_some _ _).symm.trans H; with_reducible exact H2_) | with_reducible exact H | (rw [hy228]; exact H) | exact H
                                  have Ny228 := Aside0.mk hy228
                                  clear hy228
                                  have H' := Aside0.mk H
                                  clear H
                                  have p49 : 0 ≤ (x5_1 : Int) := of_decide_eq_true (by first | (with_reducible assumption) | assumption)
                                  have q49 : x5_1 < (a0.size : Int) := of_decide_eq_true (by first | (with_reducible assumption) | assumption)
                                  have hx49 := bt_at a0 x5_1
                                  replace p49 := eq_true p49
                                  replace q49 := eq_true q49
                                  have p54 : 0 ≤ ((ji52) : Int) := of_decide_eq_true (by first | (with_reducible assumption) | assumption)
                                  have q54 : (ji52) < (a0.size : Int) := of_decide_eq_true (by first | (with_reducible assumption) | assumption)
                                  have hx54 := bt_at a0 (ji52)
                                  replace p54 := eq_true p54
                                  replace q54 := eq_true q54
                                  go_wp2_with (first | ((with_reducible refine gate_builtin (b := .append) (xs := #[.tmp 111, .tmp 112]) rfl ?_); (try (refine gate_guard (by rfl) ?_; dsimp only)); at_builtin; refine Kd.R_append (Kd.int .u8) (w0 := w) w.heap.size rfl (.tmp 111) (.tmp 112) 84 5 (.int .u8 0) 1 rfl Tryz.underlying84 info5 rfl (by decide) (by omega) u4 x4_1 10 [.int .u8 10] (fun _ => True) (fun _ => False) rfl rfl ?aP (fun _ hk => hk.elim) ?aF ?aO ?aB ?aS ?aL ?_; (case aP => exact rfl); (case aB => exact (by repeat (first | (with_reducible first | exact HB.out | apply below_alloc | apply pw_below_drewN | apply below_drew1) | exact HB.out))); (case aF => exact (fun _ _ => trivial)); (case aO => exact (by (with_reducible repeat (first | apply Kd.R_alloc | apply Kd.R_drewN | apply Kd.R_drew)); exact HO_4.out)); (case aS => exact (below_size (by repeat (first | (with_reducible first | exact HB.out | apply below_alloc | apply pw_below_drewN | apply below_drew1) | exact HB.out)))); (case aL => have := LMc56.out; omega); intro v229 w57 ho hb hg hat; rw [← Ny228.out] at ho; have n0_ := Aside0.mk (hb); have n1_ := Aside0.mk (ho); clear HB; clear HO_4; have HB := n0_; have HO230 := n1_; clear n0_ n1_; clear ho hb hg hat))
                                  go_roundg kj16
                                  case measure => have := HK1.out; have := HJ2.out; have := HJ16.out; omega
                                  case rel => exact ⟨(y228), (wrap64 (x5_1 + 2)), (by first | rfl | (simp; done) | (simp [*]; done)), H', ⟨by have := HK1.out; have := HJ2.out; have := HJ16.out; omega⟩, ⟨by (with_reducible repeat (first | apply Kd.R_alloc | apply Kd.R_drewN | apply Kd.R_drew)); exact HO230.out⟩, ⟨by repeat (first | (with_reducible first | exact HB.out | apply below_alloc | apply pw_below_drewN | apply below_drew1) | exact HB.out)⟩⟩
                                · rw [if_neg c56] at H
                                  exact absurd H (by simp)
                              · rw [if_neg c55] at H
                                have c55b0 : ((bt a0 (ji52)) == 10) = false := beq_eq_false_iff_ne.mpr c55
                                have c55b1 : ((bt a0 (ji52)) != 10) = true := bne_iff_ne.mpr c55
                                by_cases c59 : x4_1.length < 140737488355328
                                · rw [if_pos c59] at H
                                  have LMc59 := Aside0.mk c59
                                  clear c59
                                  obtain ⟨y231, hy231⟩ : ∃ y_ : List Int, y_ = (x4_1 ++ [bt a0 x5_1]) := ⟨_, rfl⟩
                                  replace H : (watchfireref29_Unquoted.l0 kj16 a0 y231 ji52) = some (r1, r2) := by first | (rw [hy231]; with_reducible exact H) | (have H2_ := (Option.bind_some _ _).symm.trans H; rw [hy231]; with_reducible exact H2_) | (have H2_ := (Option.bind_some _ _).symm.trans H; with_reducible exact H2_) | with_reducible exact H | (rw [hy231]; exact H) | exact H
                                  have Ny231 := Aside0.mk hy231
                                  clear hy231
                                  have H' := Aside0.mk H
                                  clear H
                                  have p49 : 0 ≤ (x5_1 : Int) := of_decide_eq_true (by first | (with_reducible assumption) | assumption)
                                  have q49 : x5_1 < (a0.size : Int) := of_decide_eq_true (by first | (with_reducible assumption) | assumption)
                                  have hx49 := bt_at a0 x5_1
                                  replace p49 := eq_true p49
                                  replace q49 := eq_true q49
                                  have p54 : 0 ≤ ((ji52) : Int) := of_decide_eq_true (by first | (with_reducible assumption) | assumption)
                                  have q54 : (ji52) < (a0.size : Int) := of_decide_eq_true (by first | (with_reducible assumption) | assumption)
                                  have hx54 := bt_at a0 (ji52)
                                  replace p54 := eq_true p54
                                  replace q54 := eq_true q54
                                  have p58 : 0 ≤ (x5_1 : Int) := of_decide_eq_true (by first | (with_reducible assumption) | assumption)
                                  have q58 : x5_1 < (a0.size : Int) := of_decide_eq_true (by first | (with_reducible assumption) | assumption)
                                  have hx58 := bt_at a0 x5_1
                                  replace p58 := eq_true p58
                                  replace q58 := eq_true q58
                                  go_wp2_with (first | ((with_reducible refine gate_builtin (b := .append) (xs := #[.tmp 10, .tmp 14]) rfl ?_); (try (refine gate_guard (by rfl) ?_; dsimp only)); at_builtin; refine Kd.R_append (Kd.int .u8) (w0 := w) w.heap.size rfl (.tmp 10) (.tmp 14) 84 5 (.int .u8 0) 1 rfl Tryz.underlying84 info5 rfl (by decide) (by omega) u4 x4_1 (bt a0 x5_1) [.int .u8 (bt a0 x5_1)] (fun _ => True) (fun _ => False) rfl rfl ?aP (fun _ hk => hk.elim) ?aF ?aO ?aB ?aS ?aL ?_; (case aP => exact rfl); (case aB => exact (by repeat (first | (with_reducible first | exact HB.out | apply below_alloc | apply pw_below_drewN | apply below_drew1) | exact HB.out))); (case aF => exact (fun _ _ => trivial)); (case aO => exact (by (with_reducible repeat (first | apply Kd.R_alloc | apply Kd.R_drewN | apply Kd.R_drew)); exact HO_4.out)); (case aS => exact (below_size (by repeat (first | (with_reducible first | exact HB.out | apply below_alloc | apply pw_below_drewN | apply below_drew1) | exact HB.out)))); (case aL => have := LMc59.out; omega); intro v232 w60 ho hb hg hat; rw [← Ny231.out] at ho; have n0_ := Aside0.mk (hb); have n1_ := Aside0.mk (ho); clear HB; clear HO_4; have HB := n0_; have HO233 := n1_; clear n0_ n1_; clear ho hb hg hat))
                                  go_roundg kj16
                                  case measure => have := HK1.out; have := HJ2.out; have := HJ16.out; omega
                                  case rel => exact ⟨(y231), (ji52), (by first | rfl | (simp; done) | (simp only [← hji52] <;> (first | rfl | simp)) | (simp [*]; done)), H', ⟨by have := HK1.out; have := HJ2.out; have := HJ16.out; omega⟩, ⟨by (with_reducible repeat (first | apply Kd.R_alloc | apply Kd.R_drewN | apply Kd.R_drew)); exact HO233.out⟩, ⟨by repeat (first | (with_reducible first | exact HB.out | apply below_alloc | apply pw_below_drewN | apply below_drew1) | exact HB.out)⟩⟩
                                · rw [if_neg c59] at H
                                  exact absurd H (by simp)
                            · rw [if_neg c53] at H
                              exact absurd H (by simp)
                          · rw [if_neg c51] at H
                            have c51b0 : decide ((wrap64 (x5_1 + 1)) < (a0.size : Int)) = false := decide_eq_false c51
                            clear c51
                            by_cases c62 : x4_1.length < 140737488355328
                            · rw [if_pos c62] at H
                              have LMc62 := Aside0.mk c62
                              clear c62
                              obtain ⟨y234, hy234⟩ : ∃ y_ : List Int, y_ = (x4_1 ++ [bt a0 x5_1]) := ⟨_, rfl⟩
                              replace H : (watchfireref29_Unquoted.l0 kj16 a0 y234 (wrap64 (x5_1 + 1))) = some (r1, r2) := by first | (rw [hy234]; with_reducible exact H) | (have H2_ := (Option.bind_some _ _).symm.trans H; rw [hy234]; with_reducible exact H2_) | (have H2_ := (Option.bind_some _ _).symm.trans H; with_reducible exact H2_) | with_reducible exact H | (rw [hy234]; exact H) | exact H
                              have Ny234 := Aside0.mk hy234
                              clear hy234
                              have H' := Aside0.mk H
                              clear H
                              have p49 : 0 ≤ (x5_1 : Int) := of_decide_eq_true (by first | (with_reducible assumption) | assumption)
                              have q49 : x5_1 < (a0.size : Int) := of_decide_eq_true (by first | (with_reducible assumption) | assumption)
                              have hx49 := bt_at a0 x5_1
                              replace p49 := eq_true p49
                              replace q49 := eq_true q49
                              have p61 : 0 ≤ (x5_1 : Int) := of_decide_eq_true (by first | (with_reducible assumption) | assumption)
                              have q61 : x5_1 < (a0.size : Int) := of_decide_eq_true (by first | (with_reducible assumption) | assumption)
                              have hx61 := bt_at a0 x5_1
                              replace p61 := eq_true p61
                              replace q61 := eq_true q61
                              go_wp2_with (first | ((with_reducible refine gate_builtin (b := .append) (xs := #[.tmp 10, .tmp 14]) rfl ?_); (try (refine gate_guard (by rfl) ?_; dsimp only)); at_builtin; refine Kd.R_append (Kd.int .u8) (w0 := w) w.heap.size rfl (.tmp 10) (.tmp 14) 84 5 (.int .u8 0) 1 rfl Tryz.underlying84 info5 rfl (by decide) (by omega) u4 x4_1 (bt a0 x5_1) [.int .u8 (bt a0 x5_1)] (fun _ => True) (fun _ => False) rfl rfl ?aP (fun _ hk => hk.elim) ?aF ?aO ?aB ?aS ?aL ?_; (case aP => exact rfl); (case aB => exact (by repeat (first | (with_reducible first | exact HB.out | apply below_alloc | apply pw_below_drewN | apply below_drew1) | exact HB.out))); (case aF => exact (fun _ _ => trivial)); (case aO => exact (by (with_reducible repeat (first | apply Kd.R_alloc | apply Kd.R_drewN | apply Kd.R_drew)); exact HO_4.out)); (case aS => exact (below_size (by repeat (first | (with_reducible first | exact HB.out | apply below_alloc | apply pw_below_drewN | apply below_drew1) | exact HB.out)))); (case aL => have := LMc62.out; omega); intro v235 w63 ho hb hg hat; rw [← Ny234.out] at ho; have n0_ := Aside0.mk (hb); have n1_ := Aside0.mk (ho); clear HB; clear HO_4; have HB := n0_; have HO236 := n1_; clear n0_ n1_; clear ho hb hg hat))
                              go_roundg kj16
                              case measure => have := HK1.out; have := HJ2.out; have := HJ16.out; omega
                              case rel => exact ⟨(y234), (wrap64 (x5_1 + 1)), (by first | rfl | (simp; done) | (simp [*]; done)), H', ⟨by have := HK1.out; have := HJ2.out; have := HJ16.out; omega⟩, ⟨by (with_reducible repeat (first | apply Kd.R_alloc | apply Kd.R_drewN | apply Kd.R_drew)); exact HO236.out⟩, ⟨by repeat (first | (with_reducible first | exact HB.out | apply below_alloc | apply pw_below_drewN | apply below_drew1) | exact HB.out)⟩⟩
                            · rw [if_neg c62] at H
                              exact absurd H (by simp)
                        · rw [if_neg c50] at H
                          have c50b0 : ((bt a0 x5_1) == 13) = false := beq_eq_false_iff_ne.mpr c50
                          have c50b1 : ((bt a0 x5_1) != 13) = true := bne_iff_ne.mpr c50
                          by_cases c65 : x4_1.length < 140737488355328
                          · rw [if_pos c65] at H
                            have LMc65 := Aside0.mk c65
                            clear c65
                            obtain ⟨y237, hy237⟩ : ∃ y_ : List Int, y_ = (x4_1 ++ [bt a0 x5_1]) := ⟨_, rfl⟩
                            replace H : (watchfireref29_Unquoted.l0 kj16 a0 y237 (wrap64 (x5_1 + 1))) = some (r1, r2) := by first | (rw [hy237]; with_reducible exact H) | (have H2_ := (Option.bind_some _ _).symm.trans H; rw [hy237]; with_reducible exact H2_) | (have H2_ := (Option.bind_some _ _).symm.trans H; with_reducible exact H2_) | with_reducible exact H | (rw [hy237]; exact H) | exact H
                            have Ny237 := Aside0.mk hy237
                            clear hy237
                            have H' := Aside0.mk H
                            clear H
                            have p49 : 0 ≤ (x5_1 : Int) := of_decide_eq_true (by first | (with_reducible assumption) | assumption)
                            have q49 : x5_1 < (a0.size : Int) := of_decide_eq_true (by first | (with_reducible assumption) | assumption)
                            have hx49 := bt_at a0 x5_1
                            replace p49 := eq_true p49
                            replace q49 := eq_true q49
                            have p64 : 0 ≤ (x5_1 : Int) := of_decide_eq_true (by first | (with_reducible assumption) | assumption)
                            have q64 : x5_1 < (a0.size : Int) := of_decide_eq_true (by first | (with_reducible assumption) | assumption)
                            have hx64 := bt_at a0 x5_1
                            replace p64 := eq_true p64
                            replace q64 := eq_true q64
                            go_wp2_with (first | ((with_reducible refine gate_builtin (b := .append) (xs := #[.tmp 10, .tmp 14]) rfl ?_); (try (refine gate_guard (by rfl) ?_; dsimp only)); at_builtin; refine Kd.R_append (Kd.int .u8) (w0 := w) w.heap.size rfl (.tmp 10) (.tmp 14) 84 5 (.int .u8 0) 1 rfl Tryz.underlying84 info5 rfl (by decide) (by omega) u4 x4_1 (bt a0 x5_1) [.int .u8 (bt a0 x5_1)] (fun _ => True) (fun _ => False) rfl rfl ?aP (fun _ hk => hk.elim) ?aF ?aO ?aB ?aS ?aL ?_; (case aP => exact rfl); (case aB => exact (by repeat (first | (with_reducible first | exact HB.out | apply below_alloc | apply pw_below_drewN | apply below_drew1) | exact HB.out))); (case aF => exact (fun _ _ => trivial)); (case aO => exact (by (with_reducible repeat (first | apply Kd.R_alloc | apply Kd.R_drewN | apply Kd.R_drew)); exact HO_4.out)); (case aS => exact (below_size (by repeat (first | (with_reducible first | exact HB.out | apply below_alloc | apply pw_below_drewN | apply below_drew1) | exact HB.out)))); (case aL => have := LMc65.out; omega); intro v238 w66 ho hb hg hat; rw [← Ny237.out] at ho; have n0_ := Aside0.mk (hb); have n1_ := Aside0.mk (ho); clear HB; clear HO_4; have HB := n0_; have HO239 := n1_; clear n0_ n1_; clear ho hb hg hat))
                            go_roundg kj16
                            case measure => have := HK1.out; have := HJ2.out; have := HJ16.out; omega
                            case rel => exact ⟨(y237), (wrap64 (x5_1 + 1)), (by first | rfl | (simp; done) | (simp [*]; done)), H', ⟨by have := HK1.out; have := HJ2.out; have := HJ16.out; omega⟩, ⟨by (with_reducible repeat (first | apply Kd.R_alloc | apply Kd.R_drewN | apply Kd.R_drew)); exact HO239.out⟩, ⟨by repeat (first | (with_reducible first | exact HB.out | apply below_alloc | apply pw_below_drewN | apply below_drew1) | exact HB.out)⟩⟩
                          · rw [if_neg c65] at H
                            exact absurd H (by simp)
                      · rw [if_neg c48] at H
                        exact absurd H (by simp)
                    · rw [if_neg c47] at H
                      exact absurd H (by simp)
      · rw [if_neg c2] at H
        have c2b0 : decide (x5_1 < (a0.size : Int)) = false := decide_eq_false c2
        clear c2
        replace H := Option.bind_eq_some_iff.mp H
        obtain ⟨t220, A670, H⟩ := H
        replace H : (if t220.toList = a0.toList then (some (strOfNums x4_1, 0)) else (some ((⟨#[]⟩ : ByteArray), 4))) = some (r1, r2) := H
        have A67 := Aside0.mk A670
        clear A670
        by_cases c68 : t220.toList = a0.toList
        · rw [if_pos c68] at H
          have c68b0 : (t220.toList == a0.toList) = true := beq_iff_eq.mpr c68
          have c68b1 : (t220.toList != a0.toList) = false := bne_eq_false_iff_eq.mpr c68
          clear c68
          simp only [Option.some.injEq, Prod.mk.injEq] at H
          obtain ⟨rfl, rfl⟩ := H
          have hcv69 := own_string (P := Tryz.prog) Tryz.underlying84 Tryz.underlying5 Tryz.underlying9 (Kd.own_of_R HO_4.out)
          go_wp2_with (first | ((with_reducible refine gate_callee (f := 34) rfl ?_); refine goesL_ (some 118) rfl rfl Tryz.func34 (by kernel_rfl) rfl #[.string (strOfNums x4_1)] rfl (by (try simp only [List.map_toArray, List.map_cons, List.map_nil]); first | done | rfl | (simp only [List.length_drop, List.length_take]; rfl)) ?_; (with_reducible refine (watchfireref29_Quoted.calls k1 (strOfNums x4_1) t220 _ A67.out).mono ?_); rintro e w' ⟨rfl, ⟨nd, rfl⟩⟩; refine ⟨_, rfl, ?_⟩; have hcv70 := own_string (P := Tryz.prog) Tryz.underlying84 Tryz.underlying5 Tryz.underlying9 (Kd.own_of_R (Kd.R_drewN HO_4.out nd))))
          go_ret2
          exact ⟨by first | rfl | (simp [errW_none, errW_some] <;> rfl) | (simp [*, errW_none, errW_some] <;> rfl), by repeat (first | (with_reducible first | exact HB.out | apply below_alloc | apply pw_below_drewN | apply below_drew1) | exact HB.out)⟩
        · rw [if_neg c68] at H
          have c68b0 : (t220.toList == a0.toList) = false := beq_eq_false_iff_ne.mpr c68
          have c68b1 : (t220.toList != a0.toList) = true := bne_iff_ne.mpr c68
          simp only [Option.some.injEq, Prod.mk.injEq] at H
          obtain ⟨rfl, rfl⟩ := H
          have hcv71 := own_string (P := Tryz.prog) Tryz.underlying84 Tryz.underlying5 Tryz.underlying9 (Kd.own_of_R HO_4.out)
          go_wp2_with (first | ((with_reducible refine gate_callee (f := 34) rfl ?_); refine goesL_ (some 118) rfl rfl Tryz.func34 (by kernel_rfl) rfl #[.string (strOfNums x4_1)] rfl (by (try simp only [List.map_toArray, List.map_cons, List.map_nil]); first | done | rfl | (simp only [List.length_drop, List.length_take]; rfl)) ?_; (with_reducible refine (watchfireref29_Quoted.calls k1 (strOfNums x4_1) t220 _ A67.out).mono ?_); rintro e w' ⟨rfl, ⟨nd, rfl⟩⟩; refine ⟨_, rfl, ?_⟩))
          go_ret2
          exact ⟨by first | rfl | (simp [errW_none, errW_some] <;> rfl) | (simp [*, errW_none, errW_some] <;> rfl), by repeat (first | (with_reducible first | exact HB.out | apply below_alloc | apply pw_below_drewN | apply below_drew1) | exact HB.out)⟩

end Go.Proofs.YtllhpkpckjacfaaGreatDoor.PTemplateFilters

/- ref29's Quoted and Unquoted: what they compute. -/
namespace Go.Proofs.YtllhpkpckjacfaaGreatDoor
open Go.RowKit Go.Proofs.YtllhpkpckjacfaaGreatDoorW.PrintWords PTemplateFilters
set_option linter.unusedVariables false
set_option linter.unusedSimpArgs false

/-! ### quotations -/
theorem way_f (s : Bytes) (hs : s.length ≤ 100000) {i : Nat} (hl : i < s.length) {k : Nat} (hk : 2 ≤ k) : watchfireref29_way.f k (str s) (i : Int) = some (str (if s[i] = 10 then [13, 10] else wayB s[i] (lastB (s.drop (i + 1))))) := by
  obtain ⟨k, rfl⟩ : ∃ k', k = k' + 2 := ⟨k - 2, by omega⟩
  unfold watchfireref29_way.f
  rw [str_size, if_pos (by omega), if_pos (by omega), bt_str s hl]
  have n10 := u8n s[i] 10
  have n32 := u8n s[i] 32
  have n9 := u8n s[i] 9
  have n61 := u8n s[i] 61
  rw [show ((10 : UInt8).toNat : Int) = 10 from rfl] at n10
  rw [show ((32 : UInt8).toNat : Int) = 32 from rfl] at n32
  rw [show ((9 : UInt8).toNat : Int) = 9 from rfl] at n9
  rw [show ((61 : UInt8).toNat : Int) = 61 from rfl] at n61
  by_cases h10 : s[i] = 10
  · rw [if_pos (n10.1 h10), if_pos h10]; rfl
  rw [if_neg (fun h => h10 (n10.2 h)), if_neg h10]
  -- the byte as it stands, or its digits
  have hone : (str s).extract i (i + 1) = str [s[i]] := py_one s hl
  have hj1 : ∀ b, watchfireref29_way.j1 (k + 1) (str s) (i : Int) (s[i].toNat : Int) b = some (str (if b = true then hexB s[i] else [s[i]])) := by
    intro b
    rw [watchfireref29_way.j1, hex_f, Option.bind_some, str_size, w64_1 (by omega), if_pos (show (0 : Int) ≤ (i : Int) by omega), if_pos (show (i : Int) ≤ ((i + 1 : Nat) : Int) by omega), if_pos (show ((i + 1 : Nat) : Int) ≤ (s.length : Int) by omega), Int.toNat_natCast, Int.toNat_natCast, hone]
    split <;> rfl
  have hlast : ∀ b, b = blankB s[i] → (if ((i + 1 : Nat) : Int) = (s.length : Int) then watchfireref29_way.j1 (k + 1) (str s) (i : Int) (s[i].toNat : Int) true else if 0 ≤ ((i + 1 : Nat) : Int) then (if ((i + 1 : Nat) : Int) < (s.length : Int) then watchfireref29_way.j1 (k + 1) (str s) (i : Int) (s[i].toNat : Int) ((bt (str s) ((i + 1 : Nat) : Int)) == 10) else none) else none) = some (str (if lastB (s.drop (i + 1)) = true then hexB s[i] else [s[i]])) := by
    intro b _
    by_cases he : i + 1 = s.length
    · rw [if_pos (by omega), hj1, last_end he]
    · have hl1 : i + 1 < s.length := by omega
      rw [if_neg (by omega), if_pos (by omega), if_pos (by omega), hj1, bt_str s hl1, last_at hl1]
      have hz : ((s[i + 1].toNat : Int) == 10) = (s[i + 1] == 10) := by
        rw [Bool.eq_iff_iff, beq_iff_eq, beq_iff_eq, u8n]; rfl
      rw [hz]
  have hblank : blankB s[i] = (decide (s[i] = 32) || decide (s[i] = 9)) := by
    unfold blankB
    rw [Bool.eq_iff_iff]
    simp only [Bool.or_eq_true, beq_iff_eq, decide_eq_true_eq]
    rw [n32, n9]
    omega
  have hj0 : ∀ b, b = blankB s[i] → watchfireref29_way.j0 (k + 2) (str s) (i : Int) (s[i].toNat : Int) b = some (str (wayB s[i] (lastB (s.drop (i + 1))))) := by
    intro b hb
    rw [watchfireref29_way.j0, str_size, w64_1 (by omega)]
    cases hbl : blankB s[i] with
    | true =>
      rw [hb, hbl, if_pos rfl]
      refine (hlast b hb).trans ?_
      have hp : plainB s[i] = false := by
        unfold blankB at hbl
        unfold plainB
        simp only [Bool.or_eq_true, beq_iff_eq] at hbl
        rw [decide_eq_false (by omega)]; rfl
      unfold wayB
      rw [hbl, hp]
      cases lastB (s.drop (i + 1)) <;> rfl
    | false =>
      rw [hb, hbl, if_neg (by simp)]
      have hw : wayB s[i] (lastB (s.drop (i + 1))) = if plainB s[i] = true then [s[i]] else hexB s[i] := by unfold wayB; rw [hbl]; simp
      have hpl : plainB s[i] = true ↔ 32 < s[i].toNat ∧ s[i].toNat ≤ 126 ∧ s[i].toNat ≠ 61 := by
        unfold plainB; simp only [Bool.and_eq_true, decide_eq_true_eq, bne_iff_ne, ne_eq, and_assoc]
      rw [hw, hex_f, Option.bind_some, if_pos (show (0 : Int) ≤ (i : Int) by omega), if_pos (show (i : Int) ≤ ((i + 1 : Nat) : Int) by omega), if_pos (show ((i + 1 : Nat) : Int) ≤ (s.length : Int) by omega), Int.toNat_natCast, Int.toNat_natCast, hone]
      by_cases hp : plainB s[i] = true
      · have := hpl.1 hp
        rw [if_pos hp, if_pos (by omega), if_pos (by omega), if_neg (by omega)]
      · rw [if_neg hp]
        rw [hpl] at hp
        repeat' split
        all_goals first | rfl | (exfalso; omega)
  by_cases h32 : s[i] = 32
  · rw [if_pos (n32.1 h32)]
    exact hj0 _ (by rw [hblank, decide_eq_true h32]; rfl)
  · rw [if_neg (fun h => h32 (n32.2 h))]
    refine hj0 _ ?_
    rw [hblank, decide_eq_false h32, Bool.false_or, Bool.eq_iff_iff, beq_iff_eq, decide_eq_true_eq]
    exact n9.symm
theorem quot_l0 (s : Bytes) (hs : s.length ≤ 100000) : ∀ (m i : Nat) (acc : Bytes) (line : Nat), i + m = s.length → acc.length ≤ 6 * i → line ≤ 75 → watchfireref29_Quoted.l0 (m + 3) (str s) (str acc) (line : Int) (i : Int) = some (str (acc ++ quotM (s.drop i) line))
  | 0, i, acc, line, h, ha, hln => by
    rw [show 0 + 3 = 2 + 1 from rfl, watchfireref29_Quoted.l0, str_size, if_neg (by omega), List.drop_eq_nil_of_le (by omega), quotM, List.append_nil]
  | m + 1, i, acc, line, h, ha, hln => by
    have hl : i < s.length := by omega
    rw [show m + 1 + 3 = (m + 3) + 1 by omega, watchfireref29_Quoted.l0, str_size, if_pos (by omega), way_f s hs hl (by omega), Option.bind_some, str_tl, w64_1 (by omega), str_size, str_size]
    have hd : s.drop i = s[i] :: s.drop (i + 1) := List.drop_eq_getElem_cons hl
    rw [hd, quotM]
    by_cases h10 : s[i] = 10
    · rw [if_pos h10, if_pos h10, if_pos rfl, if_pos (by simp; omega), py_cat]
      have := quot_l0 s hs m (i + 1) (acc ++ [13, 10]) 0 (by omega) (by simp; omega) (by omega)
      rw [show (0 : Int) = ((0 : Nat) : Int) from rfl, this, List.append_assoc]
    · rw [if_neg h10, if_neg h10]
      generalize hx : wayB s[i] (lastB (s.drop (i + 1))) = x
      have hxl : x.length = 1 ∨ x.length = 3 := by rw [← hx]; exact wayB_len _ _
      rw [if_neg (fun e => by rw [e] at hxl; simp at hxl), w64_in _ (by omega)]
      by_cases hf : 75 < line + x.length
      · rw [if_pos (by omega), if_pos hf, if_pos (by omega), if_pos (by simp only [ByteArray.size_append, str_size, show (⟨#[61, 13, 10]⟩ : ByteArray).size = 3 from rfl]; omega) ] 
        rw [show (⟨#[61, 13, 10]⟩ : ByteArray) = str [61, 13, 10] from rfl, py_cat, py_cat]
        have := quot_l0 s hs m (i + 1) (acc ++ [61, 13, 10] ++ x) x.length (by omega) (by simp; omega) (by omega)
        rw [show wrap64 (0 + (x.length : Int)) = (x.length : Int) by rw [w64_in _ (by omega)]; omega, this]
        simp
      · rw [if_neg (by omega), if_neg hf, if_pos (by omega), py_cat]
        have := quot_l0 s hs m (i + 1) (acc ++ x) (line + x.length) (by omega) (by simp; omega) (by omega)
        rw [show ((line : Int) + (x.length : Int)) = ((line + x.length : Nat) : Int) by omega, this, List.append_assoc]
theorem Quoted_f (s : Bytes) (hs : s.length ≤ 100000) {k : Nat} (hk : s.length + 3 ≤ k) : watchfireref29_Quoted.f k (str s) = some (str (quotM s 0)) :=
  at_rounds (fun k => watchfireref29_Quoted.mono (str s) k) hk (quot_l0 s hs s.length 0 [] 0 (by omega) (by simp) (by omega))
def digR (c : UInt8) : Int := if hexI c < 0 then 16 else hexI c
theorem dig_f (c : UInt8) {k : Nat} (hk : 20 ≤ k) : watchfireref29_digit.f k (c.toNat : Int) = some (digR c) := by
  refine at_rounds (fun k => watchfireref29_digit.mono (c.toNat : Int) k) hk ?_
  exact u8_every (fun c => watchfireref29_digit.f 20 (c.toNat : Int) = some (digR c)) (by decide +kernel) c
theorem digR_lt (c : UInt8) : digR c < 16 ↔ 0 ≤ hexI c := by
  have := hexI_hi c
  unfold digR
  split <;> omega
theorem digR_eq {c : UInt8} (h : 0 ≤ hexI c) : digR c = hexI c := by unfold digR; rw [if_neg (by omega)]
theorem w64_2 {i : Nat} (h : i < 1000000) : wrap64 ((i : Int) + 2) = ((i + 2 : Nat) : Int) := by rw [w64_in _ (by omega)]; simp
theorem w64_3 {i : Nat} (h : i < 1000000) : wrap64 ((i : Int) + 3) = ((i + 3 : Nat) : Int) := by rw [w64_in _ (by omega)]; simp
theorem unq_l0 (s : Bytes) (hs : s.length ≤ 100000) : ∀ (m i k : Nat) (acc : Bytes), s.length - i ≤ m → i ≤ s.length → acc.length ≤ i → acc ++ unqM (s.drop i) = unqM s → 3 * m + s.length + 40 ≤ k →
    watchfireref29_Unquoted.l0 k (str s) (numsP acc) (i : Int) = some (str (unqR s).1, ((unqR s).2 : Int)) := by
  intro m
  induction m with
  | zero =>
    intro i k acc hm hi ha he hk
    obtain ⟨k, rfl⟩ : ∃ k', k = k' + 1 := ⟨k - 1, by omega⟩
    rw [List.drop_eq_nil_of_le (by omega), unqM, List.append_nil] at he
    subst he
    rw [watchfireref29_Unquoted.l0, str_size, if_neg (by omega), numsP_str, Quoted_f _ (by omega) (by omega), Option.bind_some, str_tl, str_tl]
    unfold unqR
    by_cases hq : quotM (unqM s) 0 = s
    · rw [if_pos hq, if_pos hq]; rfl
    · rw [if_neg hq, if_neg hq]; rfl
  | succ m ih =>
    intro i k acc hm hi ha he hk
    by_cases hend : i = s.length
    · exact ih i k acc (by omega) hi ha he (by omega)
    have hl : i < s.length := by omega
    obtain ⟨k, rfl⟩ : ∃ k', k = k' + 3 := ⟨k - 3, by omega⟩
    -- the steps
    have sA : ∀ (h2 : i + 2 < s.length), s[i] = 61 → s[i + 1] = 13 → s[i + 2] = 10 → watchfireref29_Unquoted.l0 (k + 1) (str s) (numsP acc) ((i + 3 : Nat) : Int) = some (str (unqR s).1, ((unqR s).2 : Int)) :=
      fun h2 a b c => ih (i + 3) _ acc (by omega) (by omega) (by omega) (by rw [← unq_a h2 a b c]; exact he) (by omega)
    have sB : ∀ (h1 : i + 1 < s.length), s[i] = 13 → s[i + 1] = 10 → watchfireref29_Unquoted.l0 k (str s) (numsP acc ++ [10]) ((i + 2 : Nat) : Int) = some (str (unqR s).1, ((unqR s).2 : Int)) := by
      intro h1 a b
      have := ih (i + 2) k (acc ++ [10]) (by omega) (by omega) (by simp; omega) (by rw [List.append_assoc, List.singleton_append, ← unq_b h1 a b]; exact he) (by omega)
      rw [numsP_app] at this
      exact this
    have sC : ∀ (h2 : i + 2 < s.length), s[i] = 61 → 0 ≤ hexI s[i + 1] → 0 ≤ hexI s[i + 2] → watchfireref29_Unquoted.l0 k (str s) (numsP acc ++ [16 * hexI s[i + 1] + hexI s[i + 2]]) ((i + 3 : Nat) : Int) = some (str (unqR s).1, ((unqR s).2 : Int)) := by
      intro h2 a b c
      have := ih (i + 3) k (acc ++ [unhex s[i + 1] s[i + 2]]) (by omega) (by omega) (by simp; omega) (by rw [List.append_assoc, List.singleton_append, ← unq_c h2 a b c]; exact he) (by omega)
      rw [numsP_app, show numsP [unhex s[i + 1] s[i + 2]] = [16 * hexI s[i + 1] + hexI s[i + 2]] by rw [← unhex_toNat b c]; rfl] at this
      exact this
    have sD : (s[i] = 61 → ∀ h2 : i + 2 < s.length, ¬ (s[i + 1] = 13 ∧ s[i + 2] = 10)) → (s[i] = 13 → ∀ h1 : i + 1 < s.length, ¬ s[i + 1] = 10) → (s[i] = 61 → ∀ h2 : i + 2 < s.length, ¬ (0 ≤ hexI s[i + 1] ∧ 0 ≤ hexI s[i + 2])) →
        watchfireref29_Unquoted.l0 k (str s) (numsP acc ++ [(s[i].toNat : Int)]) ((i + 1 : Nat) : Int) = some (str (unqR s).1, ((unqR s).2 : Int)) := by
      intro a b c
      have := ih (i + 1) k (acc ++ [s[i]]) (by omega) (by omega) (by simp; omega) (by rw [List.append_assoc, List.singleton_append, ← unq_d hl a b c]; exact he) (by omega)
      rw [numsP_app] at this
      exact this
    have n61 := u8n s[i] 61
    have n13 := u8n s[i] 13
    rw [show ((61 : UInt8).toNat : Int) = 61 from rfl] at n61
    rw [show ((13 : UInt8).toNat : Int) = 13 from rfl] at n13
    have hlen : (numsP acc).length < 140737488355328 := by rw [numsP_len]; omega
    -- the last test
    have j2F : (s[i] = 61 → ∀ h2 : i + 2 < s.length, ¬ (s[i + 1] = 13 ∧ s[i + 2] = 10)) → (s[i] = 61 → ∀ h2 : i + 2 < s.length, ¬ (0 ≤ hexI s[i + 1] ∧ 0 ≤ hexI s[i + 2])) →
        watchfireref29_Unquoted.j2 (k + 1) (str s) (numsP acc) (i : Int) false = some (str (unqR s).1, ((unqR s).2 : Int)) := by
      intro a c
      rw [watchfireref29_Unquoted.j2, if_neg (by simp), str_size, if_pos (by omega), if_pos (by omega), bt_str s hl, w64_1 (by omega), w64_2 (by omega), if_pos hlen, if_pos hlen]
      by_cases h13 : s[i] = 13
      · rw [if_pos (n13.1 h13)]
        by_cases h1 : i + 1 < s.length
        · have n10 := u8n s[i + 1] 10
          rw [show ((10 : UInt8).toNat : Int) = 10 from rfl] at n10
          rw [if_pos (by omega), if_pos (by omega), bt_str s h1]
          by_cases h10 : s[i + 1] = 10
          · rw [if_pos (n10.1 h10)]; exact sB h1 h13 h10
          · rw [if_neg (fun h => h10 (n10.2 h))]; exact sD a (fun _ _ => h10) c
        · rw [if_neg (by omega)]; exact sD a (fun _ h => absurd h h1) c
      · rw [if_neg (fun h => h13 (n13.2 h))]; exact sD a (fun h => absurd h h13) c
    have j1F : (s[i] = 61 → ∀ h2 : i + 2 < s.length, ¬ (s[i + 1] = 13 ∧ s[i + 2] = 10)) → watchfireref29_Unquoted.j1 (k + 2) (str s) (numsP acc) (i : Int) false = some (str (unqR s).1, ((unqR s).2 : Int)) := by
      intro a
      rw [watchfireref29_Unquoted.j1, if_neg (by simp), str_size, if_pos (by omega), if_pos (by omega), bt_str s hl, w64_1 (by omega), w64_2 (by omega)]
      by_cases h61 : s[i] = 61
      · rw [if_pos (n61.1 h61)]
        by_cases h2 : i + 2 < s.length
        · rw [if_pos (by omega), if_pos (by omega), if_pos (by omega), bt_str s (show i + 1 < s.length by omega), bt_str s h2, dig_f _ (by omega), dig_f _ (by omega), Option.bind_some, Option.bind_some, if_pos (show (0 : Int) ≤ ((i + 2 : Nat) : Int) by omega)]
          by_cases hx : 0 ≤ hexI s[i + 1]
          · rw [if_pos ((digR_lt _).2 hx)]
            by_cases hy : 0 ≤ hexI s[i + 2]
            · have e1 := hexI_hi s[i + 1]
              have e2 := hexI_hi s[i + 2]
              rw [decide_eq_true ((digR_lt _).2 hy), watchfireref29_Unquoted.j2, if_pos rfl, str_size, w64_1 (by omega), w64_2 (by omega), if_pos (by omega), if_pos (by omega), bt_str s (show i + 1 < s.length by omega), bt_str s h2, dig_f _ (by omega), dig_f _ (by omega), Option.bind_some, Option.bind_some, if_pos (by omega), if_pos (by omega), if_pos hlen, digR_eq hx, digR_eq hy, w64_3 (by omega),
                w64_in (16 * _) (by omega), w64_in _ (by omega), show (16 * hexI s[i + 1] + hexI s[i + 2]) % 256 = 16 * hexI s[i + 1] + hexI s[i + 2] by omega]
              exact sC h2 h61 hx hy
            · rw [decide_eq_false (fun h => hy ((digR_lt _).1 h))]
              exact j2F a (fun _ _ h => hy h.2)
          · rw [if_neg (fun h => hx ((digR_lt _).1 h))]
            exact j2F a (fun _ _ h => hx h.1)
        · rw [if_neg (by omega)]; exact j2F a (fun _ h => absurd h h2)
      · rw [if_neg (fun h => h61 (n61.2 h))]; exact j2F a (fun h => absurd h h61)
    rw [watchfireref29_Unquoted.l0, str_size, if_pos (by omega), if_pos (by omega), bt_str s hl, w64_1 (by omega), w64_2 (by omega)]
    by_cases h61 : s[i] = 61
    · rw [if_pos (n61.1 h61)]
      by_cases h2 : i + 2 < s.length
      · have n13' := u8n s[i + 1] 13
        rw [show ((13 : UInt8).toNat : Int) = 13 from rfl] at n13'
        rw [if_pos (by omega), if_pos (by omega), if_pos (by omega), bt_str s (show i + 1 < s.length by omega), bt_str s h2, if_pos (show (0 : Int) ≤ ((i + 2 : Nat) : Int) by omega)]
        by_cases h13 : s[i + 1] = 13
        · rw [if_pos (n13'.1 h13)]
          have hz : ((s[i + 2].toNat : Int) == 10) = (s[i + 2] == 10) := by
            rw [Bool.eq_iff_iff, beq_iff_eq, beq_iff_eq, u8n]; rfl
          rw [hz]
          by_cases h10 : s[i + 2] = 10
          · rw [h10, beq_self_eq_true, watchfireref29_Unquoted.j1, if_pos rfl, w64_3 (by omega)]
            exact sA h2 h61 h13 h10
          · rw [beq_eq_false_iff_ne.2 h10]
            exact j1F (fun _ _ h => h10 h.2)
        · rw [if_neg (fun h => h13 (n13'.2 h))]
          exact j1F (fun _ _ h => h13 h.1)
      · rw [if_neg (by omega)]; exact j1F (fun _ h => absurd h h2)
    · rw [if_neg (fun h => h61 (n61.2 h))]; exact j1F (fun h => absurd h h61)
theorem Unquoted_f (s : Bytes) (hs : s.length ≤ 100000) : watchfireref29_Unquoted.f (4 * s.length + 40) (str s) = some (str (unqR s).1, ((unqR s).2 : Int)) :=
  unq_l0 s hs s.length 0 _ [] (by omega) (by omega) (by simp) (by simp) (by omega)
end Go.Proofs.YtllhpkpckjacfaaGreatDoor
