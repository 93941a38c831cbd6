import Derived.Test.YtllhpkpckjacfaaGreatDoorPm2
/- Out of the print of PayloadTexts. -/
namespace Go.Proofs.YtllhpkpckjacfaaGreatDoor.PTemplateFilters
open Go.RowKit Go.Proofs.YtllhpkpckjacfaaGreatDoorW.PrintWords Go.Proofs.YtllhpkpckjacfaaGreatDoorW.PrintLast Go.Proofs.YtllhpkpckjacfaaGreatDoorW.PrintMore
attribute [local go_sem] max2_int min2_int max_two min_two max_three min_three max_four min_four   -- for this text's walks alone
set_option linter.unusedVariables false
set_option linter.unusedSimpArgs false


/-! ### watchfireref29_Header: function 25 -/
mutual
def watchfireref29_Header.j0 : Nat → ByteArray → Bool → Option (ByteArray)
  | 0, _, _ => none
  | k + 1, x0, x3 => watchfireref29_Header.l0 k x0 x3 0
def watchfireref29_Header.l0 : Nat → ByteArray → Bool → Int → Option (ByteArray)
  | 0, _, _, _ => none
  | k + 1, x0, x3, x4 => if x4 < (x0.size : Int) then (if 0 ≤ x4 then (if (bt x0 x4) < 32 then (watchfireref29_Header.l0 k x0 false (wrap64 (x4 + 1))) else (if (bt x0 x4) > 126 then (watchfireref29_Header.l0 k x0 false (wrap64 (x4 + 1))) else (if (bt x0 x4) = 61 then (if (wrap64 (x4 + 1)) < (x0.size : Int) then (if 0 ≤ (wrap64 (x4 + 1)) then (if (bt x0 (wrap64 (x4 + 1))) = 63 then (watchfireref29_Header.l0 k x0 false (wrap64 (x4 + 1))) else (watchfireref29_Header.l0 k x0 x3 (wrap64 (x4 + 1)))) else (none)) else (watchfireref29_Header.l0 k x0 x3 (wrap64 (x4 + 1)))) else (watchfireref29_Header.l0 k x0 x3 (wrap64 (x4 + 1)))))) else (none)) else (if x3 = true then (some x0) else (watchfireref29_Header.l1 k x0 (⟨#[61, 63, 117, 116, 102, 45, 56, 63, 113, 63]⟩ : ByteArray) 0))
def watchfireref29_Header.l1 : Nat → ByteArray → ByteArray → Int → Option (ByteArray)
  | 0, _, _, _ => none
  | k + 1, x0, x5, x6 => if x6 < (x0.size : Int) then (if 0 ≤ x6 then (if (bt x0 x6) ≥ 97 then (if (bt x0 x6) ≤ 122 then (watchfireref29_Header.j3 k x0 x5 x6 (bt x0 x6) true) else (if (bt x0 x6) ≥ 65 then (if (bt x0 x6) ≤ 90 then (watchfireref29_Header.j3 k x0 x5 x6 (bt x0 x6) true) else (if (bt x0 x6) ≥ 48 then (watchfireref29_Header.j3 k x0 x5 x6 (bt x0 x6) (decide ((bt x0 x6) ≤ 57))) else (watchfireref29_Header.j3 k x0 x5 x6 (bt x0 x6) false))) else (if (bt x0 x6) ≥ 48 then (watchfireref29_Header.j3 k x0 x5 x6 (bt x0 x6) (decide ((bt x0 x6) ≤ 57))) else (watchfireref29_Header.j3 k x0 x5 x6 (bt x0 x6) false)))) else (if (bt x0 x6) ≥ 65 then (if (bt x0 x6) ≤ 90 then (watchfireref29_Header.j3 k x0 x5 x6 (bt x0 x6) true) else (if (bt x0 x6) ≥ 48 then (watchfireref29_Header.j3 k x0 x5 x6 (bt x0 x6) (decide ((bt x0 x6) ≤ 57))) else (watchfireref29_Header.j3 k x0 x5 x6 (bt x0 x6) false))) else (if (bt x0 x6) ≥ 48 then (watchfireref29_Header.j3 k x0 x5 x6 (bt x0 x6) (decide ((bt x0 x6) ≤ 57))) else (watchfireref29_Header.j3 k x0 x5 x6 (bt x0 x6) false)))) else (none)) else (if x5.size + 2 ≤ 9223372036854775807 then (some (x5 ++ (⟨#[63, 61]⟩ : ByteArray))) else (none))
def watchfireref29_Header.j3 : Nat → ByteArray → ByteArray → Int → Int → Bool → Option (ByteArray)
  | 0, _, _, _, _, _ => none
  | k + 1, x0, x5, x6, x7, x74 => if x74 = true then (if 0 ≤ x6 then (if x6 ≤ (wrap64 (x6 + 1)) then (if (wrap64 (x6 + 1)) ≤ (x0.size : Int) then (if x5.size + (x0.extract (x6 : Int).toNat ((wrap64 (x6 + 1)) : Int).toNat).size ≤ 9223372036854775807 then (watchfireref29_Header.l1 k x0 (x5 ++ (x0.extract (x6 : Int).toNat ((wrap64 (x6 + 1)) : Int).toNat)) (wrap64 (x6 + 1))) else (none)) else (none)) else (none)) else (none)) else (if x7 = 32 then (if x5.size + 1 ≤ 9223372036854775807 then (watchfireref29_Header.l1 k x0 (x5 ++ (⟨#[95]⟩ : ByteArray)) (wrap64 (x6 + 1))) else (none)) else ((watchfireref29_hex.f x7).bind fun t215 => (if x5.size + t215.size ≤ 9223372036854775807 then (watchfireref29_Header.l1 k x0 (x5 ++ t215) (wrap64 (x6 + 1))) else (none))))
end
def watchfireref29_Header.f (k : Nat) (a0 : ByteArray) : Option (ByteArray) := if a0.toList = ([] : List UInt8) then (watchfireref29_Header.j0 k a0 true) else (if 0 < (a0.size : Int) then (if (bt a0 0) = 32 then (watchfireref29_Header.j0 k a0 false) else (if 0 ≤ (wrap64 ((a0.size : Int) - 1)) then (if (wrap64 ((a0.size : Int) - 1)) < (a0.size : Int) then (watchfireref29_Header.j0 k a0 ((bt a0 (wrap64 ((a0.size : Int) - 1))) != 32)) else (none)) else (none))) else (none))
theorem watchfireref29_Header.mono_l : ∀ k, (∀ y0 y1, LeO (watchfireref29_Header.j0 k y0 y1) (watchfireref29_Header.j0 (k + 1) y0 y1)) ∧ (∀ y0 y1 y2, LeO (watchfireref29_Header.l0 k y0 y1 y2) (watchfireref29_Header.l0 (k + 1) y0 y1 y2)) ∧ (∀ y0 y1 y2, LeO (watchfireref29_Header.l1 k y0 y1 y2) (watchfireref29_Header.l1 (k + 1) y0 y1 y2)) ∧ (∀ y0 y1 y2 y3 y4, LeO (watchfireref29_Header.j3 k y0 y1 y2 y3 y4) (watchfireref29_Header.j3 (k + 1) y0 y1 y2 y3 y4))
  | 0 => ⟨fun _ _ r h => by simp [watchfireref29_Header.j0] at h, fun _ _ _ r h => by simp [watchfireref29_Header.l0] at h, fun _ _ _ r h => by simp [watchfireref29_Header.l1] at h, fun _ _ _ _ _ r h => by simp [watchfireref29_Header.j3] at h⟩
  | k + 1 => by
    obtain ⟨ih0, ih1, ih2, ih3⟩ := watchfireref29_Header.mono_l k
    refine ⟨?_, ?_, ?_, ?_⟩
    · intro y0 y1
      unfold watchfireref29_Header.j0
      repeat' first
      | (with_reducible exact ih0 _ _)
      | (with_reducible exact ih1 _ _ _)
      | (with_reducible exact ih2 _ _ _)
      | (with_reducible exact ih3 _ _ _ _ _)
      | (with_reducible exact LeO.refl _)
      | (with_reducible exact LeO.none _)
      | (with_reducible refine LeO.ite ?_ ?_)
      | (with_reducible refine LeO.bind ?_ (fun _ => ?_))
      | exact ih0 _ _
      | exact ih1 _ _ _
      | exact ih2 _ _ _
      | exact ih3 _ _ _ _ _
      | exact LeO.none _
      | refine LeO.ite ?_ ?_
      | refine LeO.bind ?_ (fun _ => ?_)
    · intro y0 y1 y2
      unfold watchfireref29_Header.l0
      repeat' first
      | (with_reducible exact ih0 _ _)
      | (with_reducible exact ih1 _ _ _)
      | (with_reducible exact ih2 _ _ _)
      | (with_reducible exact ih3 _ _ _ _ _)
      | (with_reducible exact LeO.refl _)
      | (with_reducible exact LeO.none _)
      | (with_reducible refine LeO.ite ?_ ?_)
      | (with_reducible refine LeO.bind ?_ (fun _ => ?_))
      | exact ih0 _ _
      | exact ih1 _ _ _
      | exact ih2 _ _ _
      | exact ih3 _ _ _ _ _
      | exact LeO.none _
      | refine LeO.ite ?_ ?_
      | refine LeO.bind ?_ (fun _ => ?_)
    · intro y0 y1 y2
      unfold watchfireref29_Header.l1
      repeat' first
      | (with_reducible exact ih0 _ _)
      | (with_reducible exact ih1 _ _ _)
      | (with_reducible exact ih2 _ _ _)
      | (with_reducible exact ih3 _ _ _ _ _)
      | (with_reducible exact LeO.refl _)
      | (with_reducible exact LeO.none _)
      | (with_reducible refine LeO.ite ?_ ?_)
      | (with_reducible refine LeO.bind ?_ (fun _ => ?_))
      | exact ih0 _ _
      | exact ih1 _ _ _
      | exact ih2 _ _ _
      | exact ih3 _ _ _ _ _
      | exact LeO.none _
      | refine LeO.ite ?_ ?_
      | refine LeO.bind ?_ (fun _ => ?_)
    · intro y0 y1 y2 y3 y4
      unfold watchfireref29_Header.j3
      repeat' first
      | (with_reducible exact ih0 _ _)
      | (with_reducible exact ih1 _ _ _)
      | (with_reducible exact ih2 _ _ _)
      | (with_reducible exact ih3 _ _ _ _ _)
      | (with_reducible exact LeO.refl _)
      | (with_reducible exact LeO.none _)
      | (with_reducible refine LeO.ite ?_ ?_)
      | (with_reducible refine LeO.bind ?_ (fun _ => ?_))
      | exact ih0 _ _
      | exact ih1 _ _ _
      | exact ih2 _ _ _
      | exact ih3 _ _ _ _ _
      | exact LeO.none _
      | refine LeO.ite ?_ ?_
      | refine LeO.bind ?_ (fun _ => ?_)
theorem watchfireref29_Header.mono : ∀ a0 k, LeO (watchfireref29_Header.f k a0) (watchfireref29_Header.f (k + 1) a0) := by
  intro a0 k
  obtain ⟨ih0, ih1, ih2, ih3⟩ := watchfireref29_Header.mono_l k
  unfold watchfireref29_Header.f
  repeat' first
      | (with_reducible exact ih0 _ _)
      | (with_reducible exact ih1 _ _ _)
      | (with_reducible exact ih2 _ _ _)
      | (with_reducible exact ih3 _ _ _ _ _)
      | (with_reducible exact LeO.refl _)
      | (with_reducible exact LeO.none _)
      | (with_reducible refine LeO.ite ?_ ?_)
      | (with_reducible refine LeO.bind ?_ (fun _ => ?_))
      | exact ih0 _ _
      | exact ih1 _ _ _
      | exact ih2 _ _ _
      | exact ih3 _ _ _ _ _
      | exact LeO.none _
      | refine LeO.ite ?_ ?_
      | refine LeO.bind ?_ (fun _ => ?_)
set_option maxHeartbeats 8000000 in
set_option maxRecDepth 100000 in
theorem watchfireref29_Header.calls (k : Nat) (a0 : ByteArray) (r : ByteArray) (w : World) (h : watchfireref29_Header.f k a0 = some r) :
    Calls Tryz.prog 25 #[.string a0] w fun e w' => e = .returned (.string r) ∧ Drawn0 w w' := by
  have H : (if a0.toList = ([] : List UInt8) then (watchfireref29_Header.j0 k a0 true) else (if 0 < (a0.size : Int) then (if (bt a0 0) = 32 then (watchfireref29_Header.j0 k a0 false) else (if 0 ≤ (wrap64 ((a0.size : Int) - 1)) then (if (wrap64 ((a0.size : Int) - 1)) < (a0.size : Int) then (watchfireref29_Header.j0 k a0 ((bt a0 (wrap64 ((a0.size : Int) - 1))) != 32)) else (none)) else (none))) else (none))) = some r := h
  clear h
  have HC2 := Aside0.mk H
  clear H
  go_enter Tryz.func25, Tryz.ntmps25
  go_upto_region 1 with (fail)
  go_cut [3] (fun v3 wc => ∃ (kq : Nat) (x3_1 : Bool), v3 = .bool x3_1 ∧ Aside0 (watchfireref29_Header.j0 kq a0 x3_1 = some r) ∧ Aside0 (kq ≤ k) ∧ Drawn0 w wc)
  case first =>
    have H := HC2.out
    clear HC2
    by_cases c3 : a0.toList = ([] : List UInt8)
    · rw [if_pos c3] at H
      have c3b0 : (a0.toList == ([] : List UInt8)) = true := beq_iff_eq.mpr c3
      have c3b1 : (a0.toList != ([] : List UInt8)) = false := bne_eq_false_iff_eq.mpr c3
      clear c3
      (first | rw [c3b0] | (simp only [i64_w, i32_w]; rw [c3b0]) | skip)
      have H' := Aside0.mk H
      clear H
      go_wp2
      go_meet
      case rel => exact ⟨_, (true), (by first | rfl | (simp; done) | (simp [*]; done)), H', ⟨by first | omega | exact Nat.le_refl _⟩, by repeat (first | exact Drawn0.refl _ | apply Drawn0.step)⟩
    · rw [if_neg c3] at H
      have c3b0 : (a0.toList == ([] : List UInt8)) = false := beq_eq_false_iff_ne.mpr c3
      have c3b1 : (a0.toList != ([] : List UInt8)) = true := bne_iff_ne.mpr c3
      (first | rw [c3b0] | (simp only [i64_w, i32_w]; rw [c3b0]) | skip)
      by_cases c4 : 0 < (a0.size : Int)
      · rw [if_pos c4] at H
        have c4b0 : decide (0 < (a0.size : Int)) = true := decide_eq_true c4
        have c4b1 : decide (0 < a0.size) = true := decide_eq_true (by omega)
        clear c4
        by_cases c6 : (bt a0 0) = 32
        · rw [if_pos c6] at H
          have c6b0 : ((bt a0 0) == 32) = true := beq_iff_eq.mpr c6
          have c6b1 : ((bt a0 0) != 32) = false := bne_eq_false_iff_eq.mpr c6
          clear c6
          have H' := Aside0.mk H
          clear H
          have p5 : 0 ≤ (0 : Int) := (by omega)
          have q5 : 0 < a0.size := (by have : (0 : Int) < (a0.size : Int) := of_decide_eq_true (by first | (with_reducible assumption) | assumption); omega)
          have hx5 : ∀ h : 0 < a0.size, ((a0[0]'h).toNat : Int) = bt a0 0 := bt_at a0 0
          clear p5
          have qi5 : (0 < (a0.size : Int)) = True := eq_true (of_decide_eq_true (by first | (with_reducible assumption) | assumption))
          replace q5 := eq_true q5
          go_wp2
          go_meet
          case rel => exact ⟨_, (false), (by first | rfl | (simp; done) | (simp [*]; done)), H', ⟨by first | omega | exact Nat.le_refl _⟩, by repeat (first | exact Drawn0.refl _ | apply Drawn0.step)⟩
        · rw [if_neg c6] at H
          have c6b0 : ((bt a0 0) == 32) = false := beq_eq_false_iff_ne.mpr c6
          have c6b1 : ((bt a0 0) != 32) = true := bne_iff_ne.mpr c6
          obtain ⟨ji7, hji7⟩ : ∃ j_ : Int, (wrap64 ((a0.size : Int) - 1)) = j_ := ⟨_, rfl⟩
          replace H : (if 0 ≤ (ji7) then (if (ji7) < (a0.size : Int) then (watchfireref29_Header.j0 k a0 ((bt a0 (ji7)) != 32)) else (none)) else (none)) = some r := by first | (rw [hji7] at H; exact H) | (simp only [hji7] at H ⊢; exact H)
          have hji7w : (IntKind.i64.wrap ((a0.size : Int) - 1)) = ji7 := (i64_w _).trans hji7
          by_cases c8 : 0 ≤ (ji7)
          · rw [if_pos c8] at H
            have c8b0 : decide (0 ≤ (ji7)) = true := decide_eq_true c8
            clear c8
            by_cases c9 : (ji7) < (a0.size : Int)
            · rw [if_pos c9] at H
              have c9b0 : decide ((ji7) < (a0.size : Int)) = true := decide_eq_true c9
              clear c9
              have H' := Aside0.mk H
              clear H
              have p5 : 0 ≤ (0 : Int) := (by omega)
              have q5 : 0 < a0.size := (by have : (0 : Int) < (a0.size : Int) := of_decide_eq_true (by first | (with_reducible assumption) | assumption); omega)
              have hx5 : ∀ h : 0 < a0.size, ((a0[0]'h).toNat : Int) = bt a0 0 := bt_at a0 0
              clear p5
              have qi5 : (0 < (a0.size : Int)) = True := eq_true (of_decide_eq_true (by first | (with_reducible assumption) | assumption))
              replace q5 := eq_true q5
              have p10 : 0 ≤ ((ji7) : Int) := of_decide_eq_true (by first | (with_reducible assumption) | assumption)
              have q10 : (ji7) < (a0.size : Int) := of_decide_eq_true (by first | (with_reducible assumption) | assumption)
              have hx10 := bt_at a0 (ji7)
              replace p10 := eq_true p10
              replace q10 := eq_true q10
              go_wp2
              go_meet
              case rel => exact ⟨_, (((bt a0 (ji7)) != 32)), (by first | rfl | (simp; done) | (simp only [← hji7] <;> (first | rfl | simp)) | (simp [*]; done)), H', ⟨by first | omega | exact Nat.le_refl _⟩, by repeat (first | exact Drawn0.refl _ | apply Drawn0.step)⟩
            · rw [if_neg c9] at H
              exact absurd H (by simp)
          · rw [if_neg c8] at H
            exact absurd H (by simp)
      · rw [if_neg c4] at H
        exact absurd H (by simp)
  case rest =>
    clear HC2
    try clear p1
    try clear q1
    try clear hx1
    try clear c2
    try clear p2
    try clear c3
    try clear c3b0
    try clear c3b1
    try clear c4
    try clear c4b0
    try clear c4b1
    try clear p5
    try clear q5
    try clear hx5
    try clear qi5
    try clear c6
    try clear c6b0
    try clear c6b1
    try clear p6
    try clear c8
    try clear c8b0
    try clear c9
    try clear c9b0
    try clear p10
    try clear q10
    try clear hx10
    try clear p10
    try clear p5
    try clear q10
    try clear q5
    obtain ⟨kq, x3_1, rfl, HA, HJ1, ⟨mc1, rfl⟩⟩ := hcut
    cases kq with
    | zero => exact absurd HA.out (by simp [watchfireref29_Header.j0])
    | succ kj1 =>
      have H := HA.out
      clear HA
      simp only [watchfireref29_Header.j0] at H
      have H' := Aside0.mk H
      clear H
      go_wp2
      go_loopg [3, 4] kj1 (fun kq v3 v4 w' => ∃ (x3_2 : Bool) (x4_2 : Int), v3 = .bool x3_2 ∧ v4 = .int .i64 x4_2 ∧ Aside0 (watchfireref29_Header.l0 kq a0 x3_2 x4_2 = some r) ∧ Aside0 (kq ≤ kj1) ∧ Drawn0 w w')
      case atStart => exact ⟨(x3_1), (0), (by first | rfl | (simp; done) | (simp [*]; done)), (by first | rfl | (simp; done) | (simp [*]; done)), H', ⟨Nat.le_refl _⟩, by repeat (first | exact Drawn0.refl _ | apply Drawn0.step)⟩
      case round =>
        clear H'
        try clear c1
        try clear p1
        try clear q1
        try clear hx1
        try clear c2
        try clear p2
        try clear c3
        try clear c3b0
        try clear c3b1
        try clear c4
        try clear c4b0
        try clear c4b1
        try clear p5
        try clear q5
        try clear hx5
        try clear qi5
        try clear c6
        try clear c6b0
        try clear c6b1
        try clear p6
        try clear c8
        try clear c8b0
        try clear c9
        try clear c9b0
        try clear p10
        try clear q10
        try clear hx10
        try clear p1
        try clear p10
        try clear p2
        try clear p5
        try clear p6
        try clear q1
        try clear q10
        try clear q5
        obtain ⟨x3_2, x4_2, rfl, rfl, HA, HK2, ⟨m2, rfl⟩⟩ := hrel
        cases gk with
        | zero => exact absurd HA.out (by simp [watchfireref29_Header.l0])
        | succ k2 =>
          have H := HA.out
          clear HA
          simp only [watchfireref29_Header.l0] at H
          by_cases c11 : x4_2 < (a0.size : Int)
          · rw [if_pos c11] at H
            have c11b0 : decide (x4_2 < (a0.size : Int)) = true := decide_eq_true c11
            clear c11
            by_cases c12 : 0 ≤ x4_2
            · rw [if_pos c12] at H
              have c12b0 : decide (0 ≤ x4_2) = true := decide_eq_true c12
              clear c12
              by_cases c14 : (bt a0 x4_2) < 32
              · rw [if_pos c14] at H
                have c14b0 : decide ((bt a0 x4_2) < 32) = true := decide_eq_true c14
                clear c14
                have H' := Aside0.mk H
                clear H
                have p13 : 0 ≤ (x4_2 : Int) := of_decide_eq_true (by first | (with_reducible assumption) | assumption)
                have q13 : x4_2 < (a0.size : Int) := of_decide_eq_true (by first | (with_reducible assumption) | assumption)
                have hx13 := bt_at a0 x4_2
                replace p13 := eq_true p13
                replace q13 := eq_true q13
                go_wp2
                go_roundg k2
                case measure => have := HJ1.out; have := HK2.out; omega
                case rel => exact ⟨(false), (wrap64 (x4_2 + 1)), (by first | rfl | (simp; done) | (simp [*]; done)), (by first | rfl | (simp; done) | (simp [*]; done)), H', ⟨by have := HJ1.out; have := HK2.out; omega⟩, by repeat (first | exact Drawn0.refl _ | apply Drawn0.step)⟩
              · rw [if_neg c14] at H
                have c14b0 : decide ((bt a0 x4_2) < 32) = false := decide_eq_false c14
                clear c14
                by_cases c16 : (bt a0 x4_2) > 126
                · rw [if_pos c16] at H
                  have c16b0 : decide (126 < (bt a0 x4_2)) = true := decide_eq_true c16
                  clear c16
                  have H' := Aside0.mk H
                  clear H
                  have p13 : 0 ≤ (x4_2 : Int) := of_decide_eq_true (by first | (with_reducible assumption) | assumption)
                  have q13 : x4_2 < (a0.size : Int) := of_decide_eq_true (by first | (with_reducible assumption) | assumption)
                  have hx13 := bt_at a0 x4_2
                  replace p13 := eq_true p13
                  replace q13 := eq_true q13
                  have p15 : 0 ≤ (x4_2 : Int) := of_decide_eq_true (by first | (with_reducible assumption) | assumption)
                  have q15 : x4_2 < (a0.size : Int) := of_decide_eq_true (by first | (with_reducible assumption) | assumption)
                  have hx15 := bt_at a0 x4_2
                  replace p15 := eq_true p15
                  replace q15 := eq_true q15
                  go_wp2
                  go_roundg k2
                  case measure => have := HJ1.out; have := HK2.out; omega
                  case rel => exact ⟨(false), (wrap64 (x4_2 + 1)), (by first | rfl | (simp; done) | (simp [*]; done)), (by first | rfl | (simp; done) | (simp [*]; done)), H', ⟨by have := HJ1.out; have := HK2.out; omega⟩, by repeat (first | exact Drawn0.refl _ | apply Drawn0.step)⟩
                · rw [if_neg c16] at H
                  have c16b0 : decide (126 < (bt a0 x4_2)) = false := decide_eq_false c16
                  clear c16
                  by_cases c18 : (bt a0 x4_2) = 61
                  · rw [if_pos c18] at H
                    have c18b0 : ((bt a0 x4_2) == 61) = true := beq_iff_eq.mpr c18
                    have c18b1 : ((bt a0 x4_2) != 61) = false := bne_eq_false_iff_eq.mpr c18
                    clear c18
                    by_cases c19 : (wrap64 (x4_2 + 1)) < (a0.size : Int)
                    · rw [if_pos c19] at H
                      have c19b0 : decide ((wrap64 (x4_2 + 1)) < (a0.size : Int)) = true := decide_eq_true c19
                      clear c19
                      obtain ⟨ji20, hji20⟩ : ∃ j_ : Int, (wrap64 (x4_2 + 1)) = j_ := ⟨_, rfl⟩
                      replace H : (if 0 ≤ (ji20) then (if (bt a0 (ji20)) = 63 then (watchfireref29_Header.l0 k2 a0 false ji20) else (watchfireref29_Header.l0 k2 a0 x3_2 ji20)) else (none)) = some r := by first | (rw [hji20] at H; exact H) | (simp only [hji20] at H ⊢; exact H)
                      (try rw [hji20] at c19b0)
                      have hji20w : (IntKind.i64.wrap (x4_2 + 1)) = ji20 := (i64_w _).trans hji20
                      by_cases c21 : 0 ≤ (ji20)
                      · rw [if_pos c21] at H
                        have c21b0 : decide (0 ≤ (ji20)) = true := decide_eq_true c21
                        clear c21
                        by_cases c23 : (bt a0 (ji20)) = 63
                        · rw [if_pos c23] at H
                          have c23b0 : ((bt a0 (ji20)) == 63) = true := beq_iff_eq.mpr c23
                          have c23b1 : ((bt a0 (ji20)) != 63) = false := bne_eq_false_iff_eq.mpr c23
                          clear c23
                          have H' := Aside0.mk H
                          clear H
                          have p13 : 0 ≤ (x4_2 : Int) := of_decide_eq_true (by first | (with_reducible assumption) | assumption)
                          have q13 : x4_2 < (a0.size : Int) := of_decide_eq_true (by first | (with_reducible assumption) | assumption)
                          have hx13 := bt_at a0 x4_2
                          replace p13 := eq_true p13
                          replace q13 := eq_true q13
                          have p15 : 0 ≤ (x4_2 : Int) := of_decide_eq_true (by first | (with_reducible assumption) | assumption)
                          have q15 : x4_2 < (a0.size : Int) := of_decide_eq_true (by first | (with_reducible assumption) | assumption)
                          have hx15 := bt_at a0 x4_2
                          replace p15 := eq_true p15
                          replace q15 := eq_true q15
                          have p17 : 0 ≤ (x4_2 : Int) := of_decide_eq_true (by first | (with_reducible assumption) | assumption)
                          have q17 : x4_2 < (a0.size : Int) := of_decide_eq_true (by first | (with_reducible assumption) | assumption)
                          have hx17 := bt_at a0 x4_2
                          replace p17 := eq_true p17
                          replace q17 := eq_true q17
                          have p22 : 0 ≤ ((ji20) : Int) := of_decide_eq_true (by first | (with_reducible assumption) | assumption)
                          have q22 : (ji20) < (a0.size : Int) := of_decide_eq_true (by first | (with_reducible assumption) | assumption)
                          have hx22 := bt_at a0 (ji20)
                          replace p22 := eq_true p22
                          replace q22 := eq_true q22
                          go_wp2
                          go_roundg k2
                          case measure => have := HJ1.out; have := HK2.out; omega
                          case rel => exact ⟨(false), (ji20), (by first | rfl | (simp; done) | (simp [*]; done)), (by first | rfl | (simp; done) | (simp only [← hji20] <;> (first | rfl | simp)) | (simp [*]; done)), H', ⟨by have := HJ1.out; have := HK2.out; omega⟩, by repeat (first | exact Drawn0.refl _ | apply Drawn0.step)⟩
                        · rw [if_neg c23] at H
                          have c23b0 : ((bt a0 (ji20)) == 63) = false := beq_eq_false_iff_ne.mpr c23
                          have c23b1 : ((bt a0 (ji20)) != 63) = true := bne_iff_ne.mpr c23
                          have H' := Aside0.mk H
                          clear H
                          have p13 : 0 ≤ (x4_2 : Int) := of_decide_eq_true (by first | (with_reducible assumption) | assumption)
                          have q13 : x4_2 < (a0.size : Int) := of_decide_eq_true (by first | (with_reducible assumption) | assumption)
                          have hx13 := bt_at a0 x4_2
                          replace p13 := eq_true p13
                          replace q13 := eq_true q13
                          have p15 : 0 ≤ (x4_2 : Int) := of_decide_eq_true (by first | (with_reducible assumption) | assumption)
                          have q15 : x4_2 < (a0.size : Int) := of_decide_eq_true (by first | (with_reducible assumption) | assumption)
                          have hx15 := bt_at a0 x4_2
                          replace p15 := eq_true p15
                          replace q15 := eq_true q15
                          have p17 : 0 ≤ (x4_2 : Int) := of_decide_eq_true (by first | (with_reducible assumption) | assumption)
                          have q17 : x4_2 < (a0.size : Int) := of_decide_eq_true (by first | (with_reducible assumption) | assumption)
                          have hx17 := bt_at a0 x4_2
                          replace p17 := eq_true p17
                          replace q17 := eq_true q17
                          have p22 : 0 ≤ ((ji20) : Int) := of_decide_eq_true (by first | (with_reducible assumption) | assumption)
                          have q22 : (ji20) < (a0.size : Int) := of_decide_eq_true (by first | (with_reducible assumption) | assumption)
                          have hx22 := bt_at a0 (ji20)
                          replace p22 := eq_true p22
                          replace q22 := eq_true q22
                          go_wp2
                          go_roundg k2
                          case measure => have := HJ1.out; have := HK2.out; omega
                          case rel => exact ⟨(x3_2), (ji20), (by first | rfl | (simp; done) | (simp [*]; done)), (by first | rfl | (simp; done) | (simp only [← hji20] <;> (first | rfl | simp)) | (simp [*]; done)), H', ⟨by have := HJ1.out; have := HK2.out; omega⟩, by repeat (first | exact Drawn0.refl _ | apply Drawn0.step)⟩
                      · rw [if_neg c21] at H
                        exact absurd H (by simp)
                    · rw [if_neg c19] at H
                      have c19b0 : decide ((wrap64 (x4_2 + 1)) < (a0.size : Int)) = false := decide_eq_false c19
                      clear c19
                      have H' := Aside0.mk H
                      clear H
                      have p13 : 0 ≤ (x4_2 : Int) := of_decide_eq_true (by first | (with_reducible assumption) | assumption)
                      have q13 : x4_2 < (a0.size : Int) := of_decide_eq_true (by first | (with_reducible assumption) | assumption)
                      have hx13 := bt_at a0 x4_2
                      replace p13 := eq_true p13
                      replace q13 := eq_true q13
                      have p15 : 0 ≤ (x4_2 : Int) := of_decide_eq_true (by first | (with_reducible assumption) | assumption)
                      have q15 : x4_2 < (a0.size : Int) := of_decide_eq_true (by first | (with_reducible assumption) | assumption)
                      have hx15 := bt_at a0 x4_2
                      replace p15 := eq_true p15
                      replace q15 := eq_true q15
                      have p17 : 0 ≤ (x4_2 : Int) := of_decide_eq_true (by first | (with_reducible assumption) | assumption)
                      have q17 : x4_2 < (a0.size : Int) := of_decide_eq_true (by first | (with_reducible assumption) | assumption)
                      have hx17 := bt_at a0 x4_2
                      replace p17 := eq_true p17
                      replace q17 := eq_true q17
                      go_wp2
                      go_roundg k2
                      case measure => have := HJ1.out; have := HK2.out; omega
                      case rel => exact ⟨(x3_2), (wrap64 (x4_2 + 1)), (by first | rfl | (simp; done) | (simp [*]; done)), (by first | rfl | (simp; done) | (simp [*]; done)), H', ⟨by have := HJ1.out; have := HK2.out; omega⟩, by repeat (first | exact Drawn0.refl _ | apply Drawn0.step)⟩
                  · rw [if_neg c18] at H
                    have c18b0 : ((bt a0 x4_2) == 61) = false := beq_eq_false_iff_ne.mpr c18
                    have c18b1 : ((bt a0 x4_2) != 61) = true := bne_iff_ne.mpr c18
                    have H' := Aside0.mk H
                    clear H
                    have p13 : 0 ≤ (x4_2 : Int) := of_decide_eq_true (by first | (with_reducible assumption) | assumption)
                    have q13 : x4_2 < (a0.size : Int) := of_decide_eq_true (by first | (with_reducible assumption) | assumption)
                    have hx13 := bt_at a0 x4_2
                    replace p13 := eq_true p13
                    replace q13 := eq_true q13
                    have p15 : 0 ≤ (x4_2 : Int) := of_decide_eq_true (by first | (with_reducible assumption) | assumption)
                    have q15 : x4_2 < (a0.size : Int) := of_decide_eq_true (by first | (with_reducible assumption) | assumption)
                    have hx15 := bt_at a0 x4_2
                    replace p15 := eq_true p15
                    replace q15 := eq_true q15
                    have p17 : 0 ≤ (x4_2 : Int) := of_decide_eq_true (by first | (with_reducible assumption) | assumption)
                    have q17 : x4_2 < (a0.size : Int) := of_decide_eq_true (by first | (with_reducible assumption) | assumption)
                    have hx17 := bt_at a0 x4_2
                    replace p17 := eq_true p17
                    replace q17 := eq_true q17
                    go_wp2
                    go_roundg k2
                    case measure => have := HJ1.out; have := HK2.out; omega
                    case rel => exact ⟨(x3_2), (wrap64 (x4_2 + 1)), (by first | rfl | (simp; done) | (simp [*]; done)), (by first | rfl | (simp; done) | (simp [*]; done)), H', ⟨by have := HJ1.out; have := HK2.out; omega⟩, by repeat (first | exact Drawn0.refl _ | apply Drawn0.step)⟩
            · rw [if_neg c12] at H
              exact absurd H (by simp)
          · rw [if_neg c11] at H
            have c11b0 : decide (x4_2 < (a0.size : Int)) = false := decide_eq_false c11
            clear c11
            by_cases c24 : x3_2 = true
            · subst c24
              have H1 : (some a0) = some r := by rw [if_pos rfl] at H; exact H
              clear H
              have H := H1
              clear H1
              obtain rfl := Option.some.inj H
              go_wp2
              go_ret
              exact ⟨by first | rfl | (simp; done) | (simp [*]; done), by repeat (first | exact Drawn0.refl _ | apply Drawn0.step)⟩
            · replace c24 := Bool.eq_false_iff.mpr c24
              subst c24
              have H1 : (watchfireref29_Header.l1 k2 a0 (⟨#[61, 63, 117, 116, 102, 45, 56, 63, 113, 63]⟩ : ByteArray) 0) = some r := by rw [if_neg (show ¬ (false = true) by decide)] at H; exact H
              clear H
              have H := H1
              clear H1
              have H' := Aside0.mk H
              clear H
              go_wp2
              go_loopg [5, 6] k2 (fun kq v5 v6 w' => ∃ (x5_3 : ByteArray) (x6_3 : Int), v5 = .string x5_3 ∧ v6 = .int .i64 x6_3 ∧ Aside0 (watchfireref29_Header.l1 kq a0 x5_3 x6_3 = some r) ∧ Aside0 (kq ≤ k2) ∧ Drawn0 w w')
              case atStart => exact ⟨((⟨#[61, 63, 117, 116, 102, 45, 56, 63, 113, 63]⟩ : ByteArray)), (0), (by first | rfl | (simp; done) | (simp [*]; done)), (by first | rfl | (simp; done) | (simp [*]; done)), H', ⟨Nat.le_refl _⟩, by repeat (first | exact Drawn0.refl _ | apply Drawn0.step)⟩
              case round =>
                clear H'
                try clear c1
                try clear p1
                try clear q1
                try clear hx1
                try clear c2
                try clear p2
                try clear q2
                try clear hx2
                try clear c3
                try clear c3b0
                try clear c3b1
                try clear c4
                try clear c4b0
                try clear c4b1
                try clear p5
                try clear q5
                try clear hx5
                try clear qi5
                try clear c6
                try clear c6b0
                try clear c6b1
                try clear p6
                try clear c8
                try clear c8b0
                try clear c9
                try clear c9b0
                try clear p10
                try clear q10
                try clear hx10
                try clear c11
                try clear c11b0
                try clear c12
                try clear c12b0
                try clear p13
                try clear q13
                try clear hx13
                try clear c14
                try clear c14b0
                try clear p15
                try clear q15
                try clear hx15
                try clear c16
                try clear c16b0
                try clear p17
                try clear q17
                try clear hx17
                try clear c18
                try clear c18b0
                try clear c18b1
                try clear c19
                try clear c19b0
                try clear c21
                try clear c21b0
                try clear p22
                try clear q22
                try clear hx22
                try clear c23
                try clear c23b0
                try clear c23b1
                try clear c24
                try clear p1
                try clear p10
                try clear p13
                try clear p15
                try clear p17
                try clear p2
                try clear p22
                try clear p5
                try clear p6
                try clear q1
                try clear q10
                try clear q13
                try clear q15
                try clear q17
                try clear q22
                try clear q5
                obtain ⟨x5_3, x6_3, rfl, rfl, HA, HK3, ⟨m3, rfl⟩⟩ := hrel
                cases gk with
                | zero => exact absurd HA.out (by simp [watchfireref29_Header.l1])
                | succ k3 =>
                  have H := HA.out
                  clear HA
                  simp only [watchfireref29_Header.l1] at H
                  by_cases c25 : x6_3 < (a0.size : Int)
                  · rw [if_pos c25] at H
                    have c25b0 : decide (x6_3 < (a0.size : Int)) = true := decide_eq_true c25
                    clear c25
                    by_cases c26 : 0 ≤ x6_3
                    · rw [if_pos c26] at H
                      have c26b0 : decide (0 ≤ x6_3) = true := decide_eq_true c26
                      clear c26
                      have HC28 := Aside0.mk H
                      clear H
                      have p27 : 0 ≤ (x6_3 : Int) := of_decide_eq_true (by first | (with_reducible assumption) | assumption)
                      have q27 : x6_3 < (a0.size : Int) := of_decide_eq_true (by first | (with_reducible assumption) | assumption)
                      have hx27 := bt_at a0 x6_3
                      replace p27 := eq_true p27
                      replace q27 := eq_true q27
                      go_upto_region 15 with (fail)
                      go_cut [74] (fun v74 wc => ∃ (kq : Nat) (x74_27 : Bool), v74 = .bool x74_27 ∧ Aside0 (watchfireref29_Header.j3 kq a0 x5_3 x6_3 (bt a0 x6_3) x74_27 = some r) ∧ Aside0 (kq ≤ k3) ∧ Drawn0 w wc)
                      case first =>
                        have H := HC28.out
                        clear HC28
                        by_cases c29 : (bt a0 x6_3) ≥ 97
                        · rw [if_pos c29] at H
                          have c29b0 : decide (97 ≤ (bt a0 x6_3)) = true := decide_eq_true c29
                          clear c29
                          (first | rw [c29b0] | (simp only [i64_w, i32_w]; rw [c29b0]) | skip)
                          by_cases c30 : (bt a0 x6_3) ≤ 122
                          · rw [if_pos c30] at H
                            have c30b0 : decide ((bt a0 x6_3) ≤ 122) = true := decide_eq_true c30
                            clear c30
                            have H' := Aside0.mk H
                            clear H
                            go_wp2
                            go_meet
                            case rel => exact ⟨_, (true), (by first | rfl | (simp; done) | (simp [*]; done)), H', ⟨by have := HJ1.out; have := HK2.out; have := HK3.out; first | omega | exact Nat.le_refl _⟩, by repeat (first | exact Drawn0.refl _ | apply Drawn0.step)⟩
                          · rw [if_neg c30] at H
                            have c30b0 : decide ((bt a0 x6_3) ≤ 122) = false := decide_eq_false c30
                            clear c30
                            by_cases c31 : (bt a0 x6_3) ≥ 65
                            · rw [if_pos c31] at H
                              have c31b0 : decide (65 ≤ (bt a0 x6_3)) = true := decide_eq_true c31
                              clear c31
                              by_cases c32 : (bt a0 x6_3) ≤ 90
                              · rw [if_pos c32] at H
                                have c32b0 : decide ((bt a0 x6_3) ≤ 90) = true := decide_eq_true c32
                                clear c32
                                have H' := Aside0.mk H
                                clear H
                                go_wp2
                                go_meet
                                case rel => exact ⟨_, (true), (by first | rfl | (simp; done) | (simp [*]; done)), H', ⟨by have := HJ1.out; have := HK2.out; have := HK3.out; first | omega | exact Nat.le_refl _⟩, by repeat (first | exact Drawn0.refl _ | apply Drawn0.step)⟩
                              · rw [if_neg c32] at H
                                have c32b0 : decide ((bt a0 x6_3) ≤ 90) = false := decide_eq_false c32
                                clear c32
                                by_cases c33 : (bt a0 x6_3) ≥ 48
                                · rw [if_pos c33] at H
                                  have c33b0 : decide (48 ≤ (bt a0 x6_3)) = true := decide_eq_true c33
                                  clear c33
                                  have H' := Aside0.mk H
                                  clear H
                                  go_wp2
                                  go_meet
                                  case rel => exact ⟨_, (decide ((bt a0 x6_3) ≤ 57)), (by first | rfl | (simp; done) | (simp [*]; done)), H', ⟨by have := HJ1.out; have := HK2.out; have := HK3.out; first | omega | exact Nat.le_refl _⟩, by repeat (first | exact Drawn0.refl _ | apply Drawn0.step)⟩
                                · rw [if_neg c33] at H
                                  have c33b0 : decide (48 ≤ (bt a0 x6_3)) = false := decide_eq_false c33
                                  clear c33
                                  have H' := Aside0.mk H
                                  clear H
                                  go_wp2
                                  go_meet
                                  case rel => exact ⟨_, (false), (by first | rfl | (simp; done) | (simp [*]; done)), H', ⟨by have := HJ1.out; have := HK2.out; have := HK3.out; first | omega | exact Nat.le_refl _⟩, by repeat (first | exact Drawn0.refl _ | apply Drawn0.step)⟩
                            · rw [if_neg c31] at H
                              have c31b0 : decide (65 ≤ (bt a0 x6_3)) = false := decide_eq_false c31
                              clear c31
                              by_cases c34 : (bt a0 x6_3) ≥ 48
                              · rw [if_pos c34] at H
                                have c34b0 : decide (48 ≤ (bt a0 x6_3)) = true := decide_eq_true c34
                                clear c34
                                have H' := Aside0.mk H
                                clear H
                                go_wp2
                                go_meet
                                case rel => exact ⟨_, (decide ((bt a0 x6_3) ≤ 57)), (by first | rfl | (simp; done) | (simp [*]; done)), H', ⟨by have := HJ1.out; have := HK2.out; have := HK3.out; first | omega | exact Nat.le_refl _⟩, by repeat (first | exact Drawn0.refl _ | apply Drawn0.step)⟩
                              · rw [if_neg c34] at H
                                have c34b0 : decide (48 ≤ (bt a0 x6_3)) = false := decide_eq_false c34
                                clear c34
                                have H' := Aside0.mk H
                                clear H
                                go_wp2
                                go_meet
                                case rel => exact ⟨_, (false), (by first | rfl | (simp; done) | (simp [*]; done)), H', ⟨by have := HJ1.out; have := HK2.out; have := HK3.out; first | omega | exact Nat.le_refl _⟩, by repeat (first | exact Drawn0.refl _ | apply Drawn0.step)⟩
                        · rw [if_neg c29] at H
                          have c29b0 : decide (97 ≤ (bt a0 x6_3)) = false := decide_eq_false c29
                          clear c29
                          (first | rw [c29b0] | (simp only [i64_w, i32_w]; rw [c29b0]) | skip)
                          by_cases c35 : (bt a0 x6_3) ≥ 65
                          · rw [if_pos c35] at H
                            have c35b0 : decide (65 ≤ (bt a0 x6_3)) = true := decide_eq_true c35
                            clear c35
                            by_cases c36 : (bt a0 x6_3) ≤ 90
                            · rw [if_pos c36] at H
                              have c36b0 : decide ((bt a0 x6_3) ≤ 90) = true := decide_eq_true c36
                              clear c36
                              have H' := Aside0.mk H
                              clear H
                              go_wp2
                              go_meet
                              case rel => exact ⟨_, (true), (by first | rfl | (simp; done) | (simp [*]; done)), H', ⟨by have := HJ1.out; have := HK2.out; have := HK3.out; first | omega | exact Nat.le_refl _⟩, by repeat (first | exact Drawn0.refl _ | apply Drawn0.step)⟩
                            · rw [if_neg c36] at H
                              have c36b0 : decide ((bt a0 x6_3) ≤ 90) = false := decide_eq_false c36
                              clear c36
                              by_cases c37 : (bt a0 x6_3) ≥ 48
                              · rw [if_pos c37] at H
                                have c37b0 : decide (48 ≤ (bt a0 x6_3)) = true := decide_eq_true c37
                                clear c37
                                have H' := Aside0.mk H
                                clear H
                                go_wp2
                                go_meet
                                case rel => exact ⟨_, (decide ((bt a0 x6_3) ≤ 57)), (by first | rfl | (simp; done) | (simp [*]; done)), H', ⟨by have := HJ1.out; have := HK2.out; have := HK3.out; first | omega | exact Nat.le_refl _⟩, by repeat (first | exact Drawn0.refl _ | apply Drawn0.step)⟩
                              · rw [if_neg c37] at H
                                have c37b0 : decide (48 ≤ (bt a0 x6_3)) = false := decide_eq_false c37
                                clear c37
                                have H' := Aside0.mk H
                                clear H
                                go_wp2
                                go_meet
                                case rel => exact ⟨_, (false), (by first | rfl | (simp; done) | (simp [*]; done)), H', ⟨by have := HJ1.out; have := HK2.out; have := HK3.out; first | omega | exact Nat.le_refl _⟩, by repeat (first | exact Drawn0.refl _ | apply Drawn0.step)⟩
                          · rw [if_neg c35] at H
                            have c35b0 : decide (65 ≤ (bt a0 x6_3)) = false := decide_eq_false c35
                            clear c35
                            by_cases c38 : (bt a0 x6_3) ≥ 48
                            · rw [if_pos c38] at H
                              have c38b0 : decide (48 ≤ (bt a0 x6_3)) = true := decide_eq_true c38
                              clear c38
                              have H' := Aside0.mk H
                              clear H
                              go_wp2
                              go_meet
                              case rel => exact ⟨_, (decide ((bt a0 x6_3) ≤ 57)), (by first | rfl | (simp; done) | (simp [*]; done)), H', ⟨by have := HJ1.out; have := HK2.out; have := HK3.out; first | omega | exact Nat.le_refl _⟩, by repeat (first | exact Drawn0.refl _ | apply Drawn0.step)⟩
                            · rw [if_neg c38] at H
                              have c38b0 : decide (48 ≤ (bt a0 x6_3)) = false := decide_eq_false c38
                              clear c38
                              have H' := Aside0.mk H
                              clear H
                              go_wp2
                              go_meet
                              case rel => exact ⟨_, (false), (by first | rfl | (simp; done) | (simp [*]; done)), H', ⟨by have := HJ1.out; have := HK2.out; have := HK3.out; first | omega | exact Nat.le_refl _⟩, by repeat (first | exact Drawn0.refl _ | apply Drawn0.step)⟩
                      case rest =>
                        clear HC28
                        try clear c1
                        try clear p1
                        try clear q1
                        try clear hx1
                        try clear c2
                        try clear p2
                        try clear q2
                        try clear hx2
                        try clear c3
                        try clear c3b0
                        try clear c3b1
                        try clear c4
                        try clear c4b0
                        try clear c4b1
                        try clear p5
                        try clear q5
                        try clear hx5
                        try clear qi5
                        try clear c6
                        try clear c6b0
                        try clear c6b1
                        try clear p6
                        try clear c8
                        try clear c8b0
                        try clear c9
                        try clear c9b0
                        try clear p10
                        try clear q10
                        try clear hx10
                        try clear c11
                        try clear c11b0
                        try clear c12
                        try clear c12b0
                        try clear p13
                        try clear q13
                        try clear hx13
                        try clear c14
                        try clear c14b0
                        try clear p15
                        try clear q15
                        try clear hx15
                        try clear c16
                        try clear c16b0
                        try clear p17
                        try clear q17
                        try clear hx17
                        try clear c18
                        try clear c18b0
                        try clear c18b1
                        try clear c19
                        try clear c19b0
                        try clear c21
                        try clear c21b0
                        try clear p22
                        try clear q22
                        try clear hx22
                        try clear c23
                        try clear c23b0
                        try clear c23b1
                        try clear c24
                        try clear c25
                        try clear c25b0
                        try clear c26
                        try clear c26b0
                        try clear p27
                        try clear q27
                        try clear hx27
                        try clear c29
                        try clear c29b0
                        try clear c30
                        try clear c30b0
                        try clear c31
                        try clear c31b0
                        try clear c32
                        try clear c32b0
                        try clear c33
                        try clear c33b0
                        try clear c34
                        try clear c34b0
                        try clear c35
                        try clear c35b0
                        try clear c36
                        try clear c36b0
                        try clear c37
                        try clear c37b0
                        try clear c38
                        try clear c38b0
                        try clear p1
                        try clear p10
                        try clear p13
                        try clear p15
                        try clear p17
                        try clear p2
                        try clear p22
                        try clear p27
                        try clear p5
                        try clear p6
                        try clear q1
                        try clear q10
                        try clear q13
                        try clear q15
                        try clear q17
                        try clear q2
                        try clear q22
                        try clear q27
                        try clear q5
                        obtain ⟨kq, x74_27, rfl, HA, HJ27, ⟨mc27, rfl⟩⟩ := hcut
                        cases kq with
                        | zero => exact absurd HA.out (by simp [watchfireref29_Header.j3])
                        | succ kj27 =>
                          have H := HA.out
                          clear HA
                          simp only [watchfireref29_Header.j3] at H
                          by_cases c39 : x74_27 = true
                          · subst c39
                            have H1 : (if 0 ≤ x6_3 then (if x6_3 ≤ (wrap64 (x6_3 + 1)) then (if (wrap64 (x6_3 + 1)) ≤ (a0.size : Int) then (if x5_3.size + (a0.extract (x6_3 : Int).toNat ((wrap64 (x6_3 + 1)) : Int).toNat).size ≤ 9223372036854775807 then (watchfireref29_Header.l1 kj27 a0 (x5_3 ++ (a0.extract (x6_3 : Int).toNat ((wrap64 (x6_3 + 1)) : Int).toNat)) (wrap64 (x6_3 + 1))) else (none)) else (none)) else (none)) else (none)) = some r := by rw [if_pos rfl] at H; exact H
                            clear H
                            have H := H1
                            clear H1
                            by_cases c40 : 0 ≤ x6_3
                            · rw [if_pos c40] at H
                              have c40b0 := eq_true c40
                              have c40b1 : decide (0 ≤ x6_3) = true := decide_eq_true c40
                              clear c40
                              by_cases c41 : x6_3 ≤ (wrap64 (x6_3 + 1))
                              · rw [if_pos c41] at H
                                have c41b0 := eq_true c41
                                have c41b1 : decide (x6_3 ≤ (wrap64 (x6_3 + 1))) = true := decide_eq_true c41
                                by_cases c42 : (wrap64 (x6_3 + 1)) ≤ (a0.size : Int)
                                · rw [if_pos c42] at H
                                  have c42b0 := eq_true c42
                                  have c42b1 : decide ((wrap64 (x6_3 + 1)) ≤ (a0.size : Int)) = true := decide_eq_true c42
                                  by_cases c43 : x5_3.size + (a0.extract (x6_3 : Int).toNat ((wrap64 (x6_3 + 1)) : Int).toNat).size ≤ 9223372036854775807
                                  · rw [if_pos c43] at H
                                    have c43b0 := eq_true c43
                                    have c43b1 : decide (x5_3.size + (a0.extract (x6_3 : Int).toNat ((wrap64 (x6_3 + 1)) : Int).toNat).size ≤ 9223372036854775807) = true := decide_eq_true c43
                                    try have c43b2 : (9223372036854775807 < x5_3.size + (a0.extract (x6_3 : Int).toNat ((wrap64 (x6_3 + 1)) : Int).toNat).size) = False := eq_false (Nat.not_lt.2 c43)
                                    have H' := Aside0.mk H
                                    clear H
                                    go_wp2
                                    go_roundg kj27
                                    case measure => have := HJ1.out; have := HK2.out; have := HK3.out; have := HJ27.out; omega
                                    case rel => exact ⟨(x5_3 ++ (a0.extract (x6_3 : Int).toNat ((wrap64 (x6_3 + 1)) : Int).toNat)), (wrap64 (x6_3 + 1)), (by first | rfl | (simp; done) | (simp [*]; done)), (by first | rfl | (simp; done) | (simp [*]; done)), H', ⟨by have := HJ1.out; have := HK2.out; have := HK3.out; have := HJ27.out; omega⟩, by repeat (first | exact Drawn0.refl _ | apply Drawn0.step)⟩
                                  · rw [if_neg c43] at H
                                    exact absurd H (by simp)
                                · rw [if_neg c42] at H
                                  exact absurd H (by simp)
                              · rw [if_neg c41] at H
                                exact absurd H (by simp)
                            · rw [if_neg c40] at H
                              exact absurd H (by simp)
                          · replace c39 := Bool.eq_false_iff.mpr c39
                            subst c39
                            have H1 : (if (bt a0 x6_3) = 32 then (if x5_3.size + 1 ≤ 9223372036854775807 then (watchfireref29_Header.l1 kj27 a0 (x5_3 ++ (⟨#[95]⟩ : ByteArray)) (wrap64 (x6_3 + 1))) else (none)) else ((watchfireref29_hex.f (bt a0 x6_3)).bind fun t215 => (if x5_3.size + t215.size ≤ 9223372036854775807 then (watchfireref29_Header.l1 kj27 a0 (x5_3 ++ t215) (wrap64 (x6_3 + 1))) else (none)))) = some r := by rw [if_neg (show ¬ (false = true) by decide)] at H; exact H
                            clear H
                            have H := H1
                            clear H1
                            by_cases c44 : (bt a0 x6_3) = 32
                            · rw [if_pos c44] at H
                              have c44b0 : ((bt a0 x6_3) == 32) = true := beq_iff_eq.mpr c44
                              have c44b1 : ((bt a0 x6_3) != 32) = false := bne_eq_false_iff_eq.mpr c44
                              clear c44
                              by_cases c45 : x5_3.size + 1 ≤ 9223372036854775807
                              · rw [if_pos c45] at H
                                have c45b0 := eq_true c45
                                have c45b1 : decide (x5_3.size + 1 ≤ 9223372036854775807) = true := decide_eq_true c45
                                try have c45b2 : (9223372036854775807 < x5_3.size + 1) = False := eq_false (Nat.not_lt.2 c45)
                                have H' := Aside0.mk H
                                clear H
                                go_wp2
                                go_roundg kj27
                                case measure => have := HJ1.out; have := HK2.out; have := HK3.out; have := HJ27.out; omega
                                case rel => exact ⟨(x5_3 ++ (⟨#[95]⟩ : ByteArray)), (wrap64 (x6_3 + 1)), (by first | rfl | (simp; done) | (simp [*]; done)), (by first | rfl | (simp; done) | (simp [*]; done)), H', ⟨by have := HJ1.out; have := HK2.out; have := HK3.out; have := HJ27.out; omega⟩, by repeat (first | exact Drawn0.refl _ | apply Drawn0.step)⟩
                              · rw [if_neg c45] at H
                                exact absurd H (by simp)
                            · rw [if_neg c44] at H
                              have c44b0 : ((bt a0 x6_3) == 32) = false := beq_eq_false_iff_ne.mpr c44
                              have c44b1 : ((bt a0 x6_3) != 32) = true := bne_iff_ne.mpr c44
                              replace H := Option.bind_eq_some_iff.mp H
                              obtain ⟨t215, A460, H⟩ := H
                              replace H : (if x5_3.size + t215.size ≤ 9223372036854775807 then (watchfireref29_Header.l1 kj27 a0 (x5_3 ++ t215) (wrap64 (x6_3 + 1))) else (none)) = some r := H
                              have A46 := Aside0.mk A460
                              clear A460
                              by_cases c47 : x5_3.size + t215.size ≤ 9223372036854775807
                              · rw [if_pos c47] at H
                                have c47b0 := eq_true c47
                                have c47b1 : decide (x5_3.size + t215.size ≤ 9223372036854775807) = true := decide_eq_true c47
                                try have c47b2 : (9223372036854775807 < x5_3.size + t215.size) = False := eq_false (Nat.not_lt.2 c47)
                                have H' := Aside0.mk H
                                clear H
                                go_wp2_with (first | ((with_reducible refine gate_callee (f := 59) rfl ?_); refine goesL_ (some 72) rfl rfl Tryz.func59 (by kernel_rfl) rfl #[.int .u8 (bt a0 x6_3)] rfl (by (try simp only [List.map_toArray, List.map_cons, List.map_nil]); first | done | rfl | (simp only [List.length_drop, List.length_take]; rfl)) ?_; (with_reducible refine (watchfireref29_hex.calls (bt a0 x6_3) t215 _ A46.out).mono ?_); rintro e w' ⟨rfl, ⟨nd, rfl⟩⟩; refine ⟨_, rfl, ?_⟩))
                                go_roundg kj27
                                case measure => have := HJ1.out; have := HK2.out; have := HK3.out; have := HJ27.out; omega
                                case rel => exact ⟨(x5_3 ++ t215), (wrap64 (x6_3 + 1)), (by first | rfl | (simp; done) | (simp [*]; done)), (by first | rfl | (simp; done) | (simp [*]; done)), H', ⟨by have := HJ1.out; have := HK2.out; have := HK3.out; have := HJ27.out; omega⟩, by repeat (first | exact Drawn0.refl _ | apply Drawn0.step)⟩
                              · rw [if_neg c47] at H
                                exact absurd H (by simp)
                    · rw [if_neg c26] at H
                      exact absurd H (by simp)
                  · rw [if_neg c25] at H
                    have c25b0 : decide (x6_3 < (a0.size : Int)) = false := decide_eq_false c25
                    clear c25
                    by_cases c48 : x5_3.size + 2 ≤ 9223372036854775807
                    · rw [if_pos c48] at H
                      have c48b0 := eq_true c48
                      have c48b1 : decide (x5_3.size + 2 ≤ 9223372036854775807) = true := decide_eq_true c48
                      try have c48b2 : (9223372036854775807 < x5_3.size + 2) = False := eq_false (Nat.not_lt.2 c48)
                      obtain rfl := Option.some.inj H
                      go_wp2
                      go_ret
                      exact ⟨by first | rfl | (simp; done) | (simp [*]; done), by repeat (first | exact Drawn0.refl _ | apply Drawn0.step)⟩
                    · rw [if_neg c48] at H
                      exact absurd H (by simp)

/-! ### watchfireref29_Escape: function 27 -/
def watchfireref29_Escape.l0 : Nat → ByteArray → ByteArray → Int → Option (ByteArray)
  | 0, _, _, _ => none
  | k + 1, x0, x3, x4 => if x4 < (x0.size : Int) then (if 0 ≤ x4 then (if (bt x0 x4) = 38 then (if x3.size + 5 ≤ 9223372036854775807 then (watchfireref29_Escape.l0 k x0 (x3 ++ (⟨#[38, 97, 109, 112, 59]⟩ : ByteArray)) (wrap64 (x4 + 1))) else (none)) else (if (bt x0 x4) = 60 then (if x3.size + 4 ≤ 9223372036854775807 then (watchfireref29_Escape.l0 k x0 (x3 ++ (⟨#[38, 108, 116, 59]⟩ : ByteArray)) (wrap64 (x4 + 1))) else (none)) else (if (bt x0 x4) = 62 then (if x3.size + 4 ≤ 9223372036854775807 then (watchfireref29_Escape.l0 k x0 (x3 ++ (⟨#[38, 103, 116, 59]⟩ : ByteArray)) (wrap64 (x4 + 1))) else (none)) else (if (bt x0 x4) < 32 then (if (bt x0 x4) = 10 then (if x4 ≤ (wrap64 (x4 + 1)) then (if (wrap64 (x4 + 1)) ≤ (x0.size : Int) then (if x3.size + (x0.extract (x4 : Int).toNat ((wrap64 (x4 + 1)) : Int).toNat).size ≤ 9223372036854775807 then (watchfireref29_Escape.l0 k x0 (x3 ++ (x0.extract (x4 : Int).toNat ((wrap64 (x4 + 1)) : Int).toNat)) (wrap64 (x4 + 1))) else (none)) else (none)) else (none)) else (if x3.size + 1 ≤ 9223372036854775807 then (watchfireref29_Escape.l0 k x0 (x3 ++ (⟨#[32]⟩ : ByteArray)) (wrap64 (x4 + 1))) else (none))) else (if x4 ≤ (wrap64 (x4 + 1)) then (if (wrap64 (x4 + 1)) ≤ (x0.size : Int) then (if x3.size + (x0.extract (x4 : Int).toNat ((wrap64 (x4 + 1)) : Int).toNat).size ≤ 9223372036854775807 then (watchfireref29_Escape.l0 k x0 (x3 ++ (x0.extract (x4 : Int).toNat ((wrap64 (x4 + 1)) : Int).toNat)) (wrap64 (x4 + 1))) else (none)) else (none)) else (none)))))) else (none)) else (some x3)
def watchfireref29_Escape.f (k : Nat) (a0 : ByteArray) : Option (ByteArray) := watchfireref29_Escape.l0 k a0 (⟨#[]⟩ : ByteArray) 0
theorem watchfireref29_Escape.mono_l : ∀ k, (∀ y0 y1 y2, LeO (watchfireref29_Escape.l0 k y0 y1 y2) (watchfireref29_Escape.l0 (k + 1) y0 y1 y2))
  | 0 => fun _ _ _ r h => by simp [watchfireref29_Escape.l0] at h
  | k + 1 => by
    have ih0 := watchfireref29_Escape.mono_l k
    · intro y0 y1 y2
      unfold watchfireref29_Escape.l0
      repeat' first
      | (with_reducible exact ih0 _ _ _)
      | (with_reducible exact LeO.refl _)
      | (with_reducible exact LeO.none _)
      | (with_reducible refine LeO.ite ?_ ?_)
      | (with_reducible refine LeO.bind ?_ (fun _ => ?_))
      | exact ih0 _ _ _
      | exact LeO.none _
      | refine LeO.ite ?_ ?_
      | refine LeO.bind ?_ (fun _ => ?_)
theorem watchfireref29_Escape.mono : ∀ a0 k, LeO (watchfireref29_Escape.f k a0) (watchfireref29_Escape.f (k + 1) a0) := by
  intro a0 k
  have ih0 := watchfireref29_Escape.mono_l k
  unfold watchfireref29_Escape.f
  repeat' first
      | (with_reducible exact ih0 _ _ _)
      | (with_reducible exact LeO.refl _)
      | (with_reducible exact LeO.none _)
      | (with_reducible refine LeO.ite ?_ ?_)
      | (with_reducible refine LeO.bind ?_ (fun _ => ?_))
      | exact ih0 _ _ _
      | exact LeO.none _
      | refine LeO.ite ?_ ?_
      | refine LeO.bind ?_ (fun _ => ?_)
set_option maxHeartbeats 8000000 in
set_option maxRecDepth 100000 in
theorem watchfireref29_Escape.calls (k : Nat) (a0 : ByteArray) (r : ByteArray) (w : World) (h : watchfireref29_Escape.f k a0 = some r) :
    Calls Tryz.prog 27 #[.string a0] w fun e w' => e = .returned (.string r) ∧ Drawn0 w w' := by
  have H : (watchfireref29_Escape.l0 k a0 (⟨#[]⟩ : ByteArray) 0) = some r := h
  clear h
  have H' := Aside0.mk H
  clear H
  go_enter Tryz.func27, Tryz.ntmps27
  go_wp2
  go_loopg [3, 4] k (fun kq v3 v4 w' => ∃ (x3_1 : ByteArray) (x4_1 : Int), v3 = .string x3_1 ∧ v4 = .int .i64 x4_1 ∧ Aside0 (watchfireref29_Escape.l0 kq a0 x3_1 x4_1 = some r) ∧ Aside0 (kq ≤ k) ∧ Drawn0 w w')
  case atStart => exact ⟨((⟨#[]⟩ : ByteArray)), (0), (by first | rfl | (simp; done) | (simp [*]; done)), (by first | rfl | (simp; done) | (simp [*]; done)), H', ⟨Nat.le_refl _⟩, by repeat (first | exact Drawn0.refl _ | apply Drawn0.step)⟩
  case round =>
    clear H'
    obtain ⟨x3_1, x4_1, rfl, rfl, HA, HK1, ⟨m1, rfl⟩⟩ := hrel
    cases gk with
    | zero => exact absurd HA.out (by simp [watchfireref29_Escape.l0])
    | succ k1 =>
      have H := HA.out
      clear HA
      simp only [watchfireref29_Escape.l0] at H
      by_cases c2 : x4_1 < (a0.size : Int)
      · rw [if_pos c2] at H
        have c2b0 : decide (x4_1 < (a0.size : Int)) = true := decide_eq_true c2
        clear c2
        by_cases c3 : 0 ≤ x4_1
        · rw [if_pos c3] at H
          have c3b0 : decide (0 ≤ x4_1) = true := decide_eq_true c3
          clear c3
          by_cases c5 : (bt a0 x4_1) = 38
          · rw [if_pos c5] at H
            have c5b0 : ((bt a0 x4_1) == 38) = true := beq_iff_eq.mpr c5
            have c5b1 : ((bt a0 x4_1) != 38) = false := bne_eq_false_iff_eq.mpr c5
            clear c5
            by_cases c6 : x3_1.size + 5 ≤ 9223372036854775807
            · rw [if_pos c6] at H
              have c6b0 := eq_true c6
              have c6b1 : decide (x3_1.size + 5 ≤ 9223372036854775807) = true := decide_eq_true c6
              try have c6b2 : (9223372036854775807 < x3_1.size + 5) = False := eq_false (Nat.not_lt.2 c6)
              have H' := Aside0.mk H
              clear H
              have p4 : 0 ≤ (x4_1 : Int) := of_decide_eq_true (by first | (with_reducible assumption) | assumption)
              have q4 : x4_1 < (a0.size : Int) := of_decide_eq_true (by first | (with_reducible assumption) | assumption)
              have hx4 := bt_at a0 x4_1
              replace p4 := eq_true p4
              replace q4 := eq_true q4
              go_wp2
              go_roundg k1
              case measure => have := HK1.out; omega
              case rel => exact ⟨(x3_1 ++ (⟨#[38, 97, 109, 112, 59]⟩ : ByteArray)), (wrap64 (x4_1 + 1)), (by first | rfl | (simp; done) | (simp [*]; done)), (by first | rfl | (simp; done) | (simp [*]; done)), H', ⟨by have := HK1.out; omega⟩, by repeat (first | exact Drawn0.refl _ | apply Drawn0.step)⟩
            · rw [if_neg c6] at H
              exact absurd H (by simp)
          · rw [if_neg c5] at H
            have c5b0 : ((bt a0 x4_1) == 38) = false := beq_eq_false_iff_ne.mpr c5
            have c5b1 : ((bt a0 x4_1) != 38) = true := bne_iff_ne.mpr c5
            by_cases c7 : (bt a0 x4_1) = 60
            · rw [if_pos c7] at H
              have c7b0 : ((bt a0 x4_1) == 60) = true := beq_iff_eq.mpr c7
              have c7b1 : ((bt a0 x4_1) != 60) = false := bne_eq_false_iff_eq.mpr c7
              clear c7
              by_cases c8 : x3_1.size + 4 ≤ 9223372036854775807
              · rw [if_pos c8] at H
                have c8b0 := eq_true c8
                have c8b1 : decide (x3_1.size + 4 ≤ 9223372036854775807) = true := decide_eq_true c8
                try have c8b2 : (9223372036854775807 < x3_1.size + 4) = False := eq_false (Nat.not_lt.2 c8)
                have H' := Aside0.mk H
                clear H
                have p4 : 0 ≤ (x4_1 : Int) := of_decide_eq_true (by first | (with_reducible assumption) | assumption)
                have q4 : x4_1 < (a0.size : Int) := of_decide_eq_true (by first | (with_reducible assumption) | assumption)
                have hx4 := bt_at a0 x4_1
                replace p4 := eq_true p4
                replace q4 := eq_true q4
                go_wp2
                go_roundg k1
                case measure => have := HK1.out; omega
                case rel => exact ⟨(x3_1 ++ (⟨#[38, 108, 116, 59]⟩ : ByteArray)), (wrap64 (x4_1 + 1)), (by first | rfl | (simp; done) | (simp [*]; done)), (by first | rfl | (simp; done) | (simp [*]; done)), H', ⟨by have := HK1.out; omega⟩, by repeat (first | exact Drawn0.refl _ | apply Drawn0.step)⟩
              · rw [if_neg c8] at H
                exact absurd H (by simp)
            · rw [if_neg c7] at H
              have c7b0 : ((bt a0 x4_1) == 60) = false := beq_eq_false_iff_ne.mpr c7
              have c7b1 : ((bt a0 x4_1) != 60) = true := bne_iff_ne.mpr c7
              by_cases c9 : (bt a0 x4_1) = 62
              · rw [if_pos c9] at H
                have c9b0 : ((bt a0 x4_1) == 62) = true := beq_iff_eq.mpr c9
                have c9b1 : ((bt a0 x4_1) != 62) = false := bne_eq_false_iff_eq.mpr c9
                clear c9
                by_cases c10 : x3_1.size + 4 ≤ 9223372036854775807
                · rw [if_pos c10] at H
                  have c10b0 := eq_true c10
                  have c10b1 : decide (x3_1.size + 4 ≤ 9223372036854775807) = true := decide_eq_true c10
                  try have c10b2 : (9223372036854775807 < x3_1.size + 4) = False := eq_false (Nat.not_lt.2 c10)
                  have H' := Aside0.mk H
                  clear H
                  have p4 : 0 ≤ (x4_1 : Int) := of_decide_eq_true (by first | (with_reducible assumption) | assumption)
                  have q4 : x4_1 < (a0.size : Int) := of_decide_eq_true (by first | (with_reducible assumption) | assumption)
                  have hx4 := bt_at a0 x4_1
                  replace p4 := eq_true p4
                  replace q4 := eq_true q4
                  go_wp2
                  go_roundg k1
                  case measure => have := HK1.out; omega
                  case rel => exact ⟨(x3_1 ++ (⟨#[38, 103, 116, 59]⟩ : ByteArray)), (wrap64 (x4_1 + 1)), (by first | rfl | (simp; done) | (simp [*]; done)), (by first | rfl | (simp; done) | (simp [*]; done)), H', ⟨by have := HK1.out; omega⟩, by repeat (first | exact Drawn0.refl _ | apply Drawn0.step)⟩
                · rw [if_neg c10] at H
                  exact absurd H (by simp)
              · rw [if_neg c9] at H
                have c9b0 : ((bt a0 x4_1) == 62) = false := beq_eq_false_iff_ne.mpr c9
                have c9b1 : ((bt a0 x4_1) != 62) = true := bne_iff_ne.mpr c9
                by_cases c11 : (bt a0 x4_1) < 32
                · rw [if_pos c11] at H
                  have c11b0 : decide ((bt a0 x4_1) < 32) = true := decide_eq_true c11
                  clear c11
                  by_cases c12 : (bt a0 x4_1) = 10
                  · rw [if_pos c12] at H
                    have c12b0 : ((bt a0 x4_1) == 10) = true := beq_iff_eq.mpr c12
                    have c12b1 : ((bt a0 x4_1) != 10) = false := bne_eq_false_iff_eq.mpr c12
                    clear c12
                    have c13b0 := eq_true (of_decide_eq_true (by first | (with_reducible assumption) | assumption) : 0 ≤ x4_1)
                    by_cases c14 : x4_1 ≤ (wrap64 (x4_1 + 1))
                    · rw [if_pos c14] at H
                      have c14b0 := eq_true c14
                      have c14b1 : decide (x4_1 ≤ (wrap64 (x4_1 + 1))) = true := decide_eq_true c14
                      by_cases c15 : (wrap64 (x4_1 + 1)) ≤ (a0.size : Int)
                      · rw [if_pos c15] at H
                        have c15b0 := eq_true c15
                        have c15b1 : decide ((wrap64 (x4_1 + 1)) ≤ (a0.size : Int)) = true := decide_eq_true c15
                        by_cases c16 : x3_1.size + (a0.extract (x4_1 : Int).toNat ((wrap64 (x4_1 + 1)) : Int).toNat).size ≤ 9223372036854775807
                        · rw [if_pos c16] at H
                          have c16b0 := eq_true c16
                          have c16b1 : decide (x3_1.size + (a0.extract (x4_1 : Int).toNat ((wrap64 (x4_1 + 1)) : Int).toNat).size ≤ 9223372036854775807) = true := decide_eq_true c16
                          try have c16b2 : (9223372036854775807 < x3_1.size + (a0.extract (x4_1 : Int).toNat ((wrap64 (x4_1 + 1)) : Int).toNat).size) = False := eq_false (Nat.not_lt.2 c16)
                          have H' := Aside0.mk H
                          clear H
                          have p4 : 0 ≤ (x4_1 : Int) := of_decide_eq_true (by first | (with_reducible assumption) | assumption)
                          have q4 : x4_1 < (a0.size : Int) := of_decide_eq_true (by first | (with_reducible assumption) | assumption)
                          have hx4 := bt_at a0 x4_1
                          replace p4 := eq_true p4
                          replace q4 := eq_true q4
                          go_wp2
                          go_roundg k1
                          case measure => have := HK1.out; omega
                          case rel => exact ⟨(x3_1 ++ (a0.extract (x4_1 : Int).toNat ((wrap64 (x4_1 + 1)) : Int).toNat)), (wrap64 (x4_1 + 1)), (by first | rfl | (simp; done) | (simp [*]; done)), (by first | rfl | (simp; done) | (simp [*]; done)), H', ⟨by have := HK1.out; omega⟩, by repeat (first | exact Drawn0.refl _ | apply Drawn0.step)⟩
                        · rw [if_neg c16] at H
                          exact absurd H (by simp)
                      · rw [if_neg c15] at H
                        exact absurd H (by simp)
                    · rw [if_neg c14] at H
                      exact absurd H (by simp)
                  · rw [if_neg c12] at H
                    have c12b0 : ((bt a0 x4_1) == 10) = false := beq_eq_false_iff_ne.mpr c12
                    have c12b1 : ((bt a0 x4_1) != 10) = true := bne_iff_ne.mpr c12
                    by_cases c17 : x3_1.size + 1 ≤ 9223372036854775807
                    · rw [if_pos c17] at H
                      have c17b0 := eq_true c17
                      have c17b1 : decide (x3_1.size + 1 ≤ 9223372036854775807) = true := decide_eq_true c17
                      try have c17b2 : (9223372036854775807 < x3_1.size + 1) = False := eq_false (Nat.not_lt.2 c17)
                      have H' := Aside0.mk H
                      clear H
                      have p4 : 0 ≤ (x4_1 : Int) := of_decide_eq_true (by first | (with_reducible assumption) | assumption)
                      have q4 : x4_1 < (a0.size : Int) := of_decide_eq_true (by first | (with_reducible assumption) | assumption)
                      have hx4 := bt_at a0 x4_1
                      replace p4 := eq_true p4
                      replace q4 := eq_true q4
                      go_wp2
                      go_roundg k1
                      case measure => have := HK1.out; omega
                      case rel => exact ⟨(x3_1 ++ (⟨#[32]⟩ : ByteArray)), (wrap64 (x4_1 + 1)), (by first | rfl | (simp; done) | (simp [*]; done)), (by first | rfl | (simp; done) | (simp [*]; done)), H', ⟨by have := HK1.out; omega⟩, by repeat (first | exact Drawn0.refl _ | apply Drawn0.step)⟩
                    · rw [if_neg c17] at H
                      exact absurd H (by simp)
                · rw [if_neg c11] at H
                  have c11b0 : decide ((bt a0 x4_1) < 32) = false := decide_eq_false c11
                  clear c11
                  have c18b0 := eq_true (of_decide_eq_true (by first | (with_reducible assumption) | assumption) : 0 ≤ x4_1)
                  by_cases c19 : x4_1 ≤ (wrap64 (x4_1 + 1))
                  · rw [if_pos c19] at H
                    have c19b0 := eq_true c19
                    have c19b1 : decide (x4_1 ≤ (wrap64 (x4_1 + 1))) = true := decide_eq_true c19
                    by_cases c20 : (wrap64 (x4_1 + 1)) ≤ (a0.size : Int)
                    · rw [if_pos c20] at H
                      have c20b0 := eq_true c20
                      have c20b1 : decide ((wrap64 (x4_1 + 1)) ≤ (a0.size : Int)) = true := decide_eq_true c20
                      by_cases c21 : x3_1.size + (a0.extract (x4_1 : Int).toNat ((wrap64 (x4_1 + 1)) : Int).toNat).size ≤ 9223372036854775807
                      · rw [if_pos c21] at H
                        have c21b0 := eq_true c21
                        have c21b1 : decide (x3_1.size + (a0.extract (x4_1 : Int).toNat ((wrap64 (x4_1 + 1)) : Int).toNat).size ≤ 9223372036854775807) = true := decide_eq_true c21
                        try have c21b2 : (9223372036854775807 < x3_1.size + (a0.extract (x4_1 : Int).toNat ((wrap64 (x4_1 + 1)) : Int).toNat).size) = False := eq_false (Nat.not_lt.2 c21)
                        have H' := Aside0.mk H
                        clear H
                        have p4 : 0 ≤ (x4_1 : Int) := of_decide_eq_true (by first | (with_reducible assumption) | assumption)
                        have q4 : x4_1 < (a0.size : Int) := of_decide_eq_true (by first | (with_reducible assumption) | assumption)
                        have hx4 := bt_at a0 x4_1
                        replace p4 := eq_true p4
                        replace q4 := eq_true q4
                        go_wp2
                        go_roundg k1
                        case measure => have := HK1.out; omega
                        case rel => exact ⟨(x3_1 ++ (a0.extract (x4_1 : Int).toNat ((wrap64 (x4_1 + 1)) : Int).toNat)), (wrap64 (x4_1 + 1)), (by first | rfl | (simp; done) | (simp [*]; done)), (by first | rfl | (simp; done) | (simp [*]; done)), H', ⟨by have := HK1.out; omega⟩, by repeat (first | exact Drawn0.refl _ | apply Drawn0.step)⟩
                      · rw [if_neg c21] at H
                        exact absurd H (by simp)
                    · rw [if_neg c20] at H
                      exact absurd H (by simp)
                  · rw [if_neg c19] at H
                    exact absurd H (by simp)
        · rw [if_neg c3] at H
          exact absurd H (by simp)
      · rw [if_neg c2] at H
        have c2b0 : decide (x4_1 < (a0.size : Int)) = false := decide_eq_false c2
        clear c2
        obtain rfl := Option.some.inj H
        go_wp2
        go_ret
        exact ⟨by first | rfl | (simp; done) | (simp [*]; done), by repeat (first | exact Drawn0.refl _ | apply Drawn0.step)⟩

end Go.Proofs.YtllhpkpckjacfaaGreatDoor.PTemplateFilters

/- ref29's texts: what they compute. -/
namespace Go.Proofs.YtllhpkpckjacfaaGreatDoor
open Go.RowKit Go.Proofs.YtllhpkpckjacfaaGreatDoorW.PrintWords PTemplateFilters
set_option linter.unusedVariables false
set_option linter.unusedSimpArgs false

theorem esc_l0 (s : Bytes) (hs : s.length ≤ 100000) : ∀ (m i : Nat), i + m = s.length → watchfireref29_Escape.l0 (m + 1) (str s) (str ((s.take i).flatMap escB)) (i : Int) = some (str (escM s))
  | 0, i, h => by
    rw [watchfireref29_Escape.l0, str_size, if_neg (by omega), List.take_of_length_le (by omega)]
    rfl
  | m + 1, i, h => by
    have hl : i < s.length := by omega
    have hlen := fl_len escB_len s i
    have ih := esc_l0 s hs m (i + 1) (by omega)
    rw [take_flat escB s hl] at ih
    rw [watchfireref29_Escape.l0, str_size, if_pos (by omega), if_pos (by omega), bt_str s hl, w64_1 (by omega)]
    simp only [Int.toNat_natCast, py_one s hl, str_size]
    generalize (s.take i).flatMap escB = acc at *
    generalize s[i] = c at *
    have n38 := u8n c 38
    have n60 := u8n c 60
    have n62 := u8n c 62
    have n10 := u8n c 10
    rw [show ((38 : UInt8).toNat : Int) = 38 from rfl] at n38
    rw [show ((60 : UInt8).toNat : Int) = 60 from rfl] at n60
    rw [show ((62 : UInt8).toNat : Int) = 62 from rfl] at n62
    rw [show ((10 : UInt8).toNat : Int) = 10 from rfl] at n10
    by_cases h38 : c = 38
    · rw [if_pos (n38.1 h38), if_pos (by omega), show (⟨#[38, 97, 109, 112, 59]⟩ : ByteArray) = str (escB c) by rw [h38]; rfl, py_cat]
      exact ih
    rw [if_neg (fun h => h38 (n38.2 h))]
    by_cases h60 : c = 60
    · rw [if_pos (n60.1 h60), if_pos (by omega), show (⟨#[38, 108, 116, 59]⟩ : ByteArray) = str (escB c) by rw [h60]; rfl, py_cat]
      exact ih
    rw [if_neg (fun h => h60 (n60.2 h))]
    by_cases h62 : c = 62
    · rw [if_pos (n62.1 h62), if_pos (by omega), show (⟨#[38, 103, 116, 59]⟩ : ByteArray) = str (escB c) by rw [h62]; rfl, py_cat]
      exact ih
    rw [if_neg (fun h => h62 (n62.2 h))]
    have he : escB c = if c.toNat < 32 ∧ c ≠ 10 then [32] else [c] := by unfold escB; rw [if_neg h38, if_neg h60, if_neg h62]
    rw [he] at ih
    by_cases h32 : c.toNat < 32
    · rw [if_pos (by omega)]
      by_cases h10 : c = 10
      · rw [if_neg (fun h => h.2 h10)] at ih
        rw [if_pos (n10.1 h10), if_pos (by omega), if_pos (by omega), if_pos (by simp; omega), py_cat]
        exact ih
      · rw [if_pos ⟨h32, h10⟩] at ih
        rw [if_neg (fun h => h10 (n10.2 h)), if_pos (by omega), show (⟨#[32]⟩ : ByteArray) = str [32] from rfl, py_cat]
        exact ih
    · rw [if_neg (fun h => h32 h.1)] at ih
      rw [if_neg (by omega), if_pos (by omega), if_pos (by omega), if_pos (by simp; omega), py_cat]
      exact ih
theorem Escape_f (s : Bytes) (hs : s.length ≤ 100000) : watchfireref29_Escape.f (s.length + 1) (str s) = some (str (escM s)) := esc_l0 s hs s.length 0 (by omega)
end Go.Proofs.YtllhpkpckjacfaaGreatDoor

/- ref29's Header: what it computes. -/
namespace Go.Proofs.YtllhpkpckjacfaaGreatDoor
open Go.RowKit Go.Proofs.YtllhpkpckjacfaaGreatDoorW.PrintWords PTemplateFilters
set_option linter.unusedVariables false
set_option linter.unusedSimpArgs false

theorem headB_let (c : UInt8) : letterB c = true ↔ (97 ≤ (c.toNat : Int) ∧ (c.toNat : Int) ≤ 122) ∨ (65 ≤ (c.toNat : Int) ∧ (c.toNat : Int) ≤ 90) ∨ (48 ≤ (c.toNat : Int) ∧ (c.toNat : Int) ≤ 57) := by
  simp only [letterB, Bool.or_eq_true, Bool.and_eq_true, decide_eq_true_eq]
  omega
theorem head_j3 (s : Bytes) (hs : s.length ≤ 100000) {i : Nat} (hl : i < s.length) (k : Nat) (acc : Bytes) (ha : acc.length ≤ 1000000) (b : Bool) (hb : b = letterB s[i]) :
    watchfireref29_Header.j3 (k + 1) (str s) (str acc) (i : Int) (s[i].toNat : Int) b = watchfireref29_Header.l1 k (str s) (str (acc ++ headB' s[i])) ((i + 1 : Nat) : Int) := by
  rw [watchfireref29_Header.j3, w64_1 (by omega)]
  simp only [Int.toNat_natCast, py_one s hl, str_size]
  subst hb
  unfold headB'
  generalize s[i] = c
  cases hc : letterB c with
  | true =>
    rw [if_pos rfl, if_pos (by omega), if_pos (by omega), if_pos (by omega), if_pos (by simp; omega), if_pos rfl, py_cat]
  | false =>
    rw [if_neg Bool.false_ne_true, if_neg Bool.false_ne_true]
    by_cases h32 : c = 32
    · rw [if_pos (show (c.toNat : Int) = 32 from (u8n c 32).1 h32), if_pos (by omega), if_pos h32, show (⟨#[95]⟩ : ByteArray) = str [95] from rfl, py_cat]
    · rw [if_neg (show ¬ (c.toNat : Int) = 32 from fun h => h32 ((u8n c 32).2 h)), if_neg h32, hex_f, Option.bind_some, str_size, if_pos (by simp [hexB]; omega), py_cat]
theorem head_l1 (s : Bytes) (hs : s.length ≤ 100000) : ∀ (m i : Nat), i + m = s.length → watchfireref29_Header.l1 (2 * m + 1) (str s) (str (wBegin ++ (s.take i).flatMap headB')) (i : Int) = some (str (wBegin ++ s.flatMap headB' ++ [63, 61]))
  | 0, i, h => by
    have hlen := fl_len headB_len s i
    rw [watchfireref29_Header.l1, str_size, if_neg (by omega), if_pos (by rw [str_size, List.length_append]; simp only [wBegin, List.length_cons, List.length_nil]; omega), show (⟨#[63, 61]⟩ : ByteArray) = str [63, 61] from rfl, py_cat, List.take_of_length_le (by omega)]
  | m + 1, i, h => by
    have hl : i < s.length := by omega
    have hlen := fl_len headB_len s i
    have ih := head_l1 s hs m (i + 1) (by omega)
    rw [take_flat headB' s hl, ← List.append_assoc] at ih
    rw [show 2 * (m + 1) + 1 = (2 * m + 1) + 1 + 1 by omega, watchfireref29_Header.l1, str_size, if_pos (by omega), if_pos (by omega), bt_str s hl]
    have hj := fun b hb => head_j3 s hs hl (2 * m + 1) (wBegin ++ (s.take i).flatMap headB') (by rw [List.length_append]; simp only [wBegin, List.length_cons, List.length_nil]; omega) b hb
    have hlet := headB_let s[i]
    have hT : letterB s[i] = true → ∀ b, b = true → watchfireref29_Header.j3 (2 * m + 1 + 1) (str s) (str (wBegin ++ (s.take i).flatMap headB')) (i : Int) (s[i].toNat : Int) b = some (str (wBegin ++ s.flatMap headB' ++ [63, 61])) := fun h b hb => (hj b (by rw [hb, h])).trans ih
    have hF : ¬ letterB s[i] = true → ∀ b, b = false → watchfireref29_Header.j3 (2 * m + 1 + 1) (str s) (str (wBegin ++ (s.take i).flatMap headB')) (i : Int) (s[i].toNat : Int) b = some (str (wBegin ++ s.flatMap headB' ++ [63, 61])) := fun h b hb => (hj b (by rw [hb]; cases hx : letterB s[i]; rfl; exact absurd hx h)).trans ih
    have hD : letterB s[i] = decide ((s[i].toNat : Int) ≤ 57) → watchfireref29_Header.j3 (2 * m + 1 + 1) (str s) (str (wBegin ++ (s.take i).flatMap headB')) (i : Int) (s[i].toNat : Int) (decide ((s[i].toNat : Int) ≤ 57)) = some (str (wBegin ++ s.flatMap headB' ++ [63, 61])) := fun h => (hj _ h.symm).trans ih
    clear hj ih
    repeat' split
    all_goals first
      | exact hT (hlet.2 (by omega)) _ rfl
      | exact hF (fun h => by have := hlet.1 h; omega) _ rfl
      | (refine hD ?_; rw [Bool.eq_iff_iff, hlet, decide_eq_true_eq]; omega)
theorem head_l0 (s : Bytes) (hs : s.length ≤ 100000) : ∀ (m i : Nat) (b : Bool), i + m = s.length → watchfireref29_Header.l0 (m + (2 * s.length + 2)) (str s) b (i : Int) = some (if (b && (List.range' i m).all fun j => !badHd s j) = true then str s else str (wBegin ++ s.flatMap headB' ++ [63, 61]))
  | 0, i, b, h => by
    rw [show 0 + (2 * s.length + 2) = (2 * s.length + 1) + 1 by omega, watchfireref29_Header.l0, str_size, if_neg (by omega)]
    have h1 := head_l1 s hs s.length 0 (by omega)
    simp only [List.take_zero, List.flatMap_nil, List.append_nil] at h1
    cases b with
    | true => rw [if_pos rfl, if_pos (by simp)]
    | false => rw [if_neg (by simp), if_neg (by simp)]; exact h1
  | m + 1, i, b, h => by
    have hl : i < s.length := by omega
    have ihF := head_l0 s hs m (i + 1) false (by omega)
    have ih := head_l0 s hs m (i + 1) b (by omega)
    have hg : s.getD i 0 = s[i] := by rw [List.getD_eq_getElem?_getD, List.getElem?_eq_getElem hl]; rfl
    have hok : okB s[i] = (decide (32 ≤ s[i].toNat) && decide (s[i].toNat ≤ 126)) := rfl
    have hbad : badHd s i = (!okB s[i] || (s[i] == 61 && decide (i + 1 < s.length) && s.getD (i + 1) 0 == 63)) := by unfold badHd; rw [hg]
    have n61 := u8n s[i] 61
    rw [show ((61 : UInt8).toNat : Int) = 61 from rfl] at n61
    rw [show m + 1 + (2 * s.length + 2) = (m + (2 * s.length + 2)) + 1 by omega, watchfireref29_Header.l0, str_size, if_pos (by omega), if_pos (by omega), bt_str s hl, w64_1 (by omega), List.range'_succ, List.all_cons]
    have hT : badHd s i = true → (if (b && (!badHd s i && (List.range' (i + 1) m).all fun j => !badHd s j)) = true then str s else str (wBegin ++ s.flatMap headB' ++ [63, 61])) = if (false && (List.range' (i + 1) m).all fun j => !badHd s j) = true then str s else str (wBegin ++ s.flatMap headB' ++ [63, 61]) := fun h => by rw [h]; simp
    have hF : badHd s i = false → (if (b && (!badHd s i && (List.range' (i + 1) m).all fun j => !badHd s j)) = true then str s else str (wBegin ++ s.flatMap headB' ++ [63, 61])) = if (b && (List.range' (i + 1) m).all fun j => !badHd s j) = true then str s else str (wBegin ++ s.flatMap headB' ++ [63, 61]) := fun h => by rw [h, Bool.not_false, Bool.true_and]
    by_cases h1 : s[i].toNat < 32
    · have hk : badHd s i = true := by rw [hbad, hok, decide_eq_false (by omega)]; rfl
      rw [if_pos (by omega), hT hk]; exact ihF
    rw [if_neg (by omega)]
    by_cases h2 : 126 < s[i].toNat
    · have hk : badHd s i = true := by rw [hbad, hok, decide_eq_false (show ¬ s[i].toNat ≤ 126 by omega), Bool.and_false]; rfl
      rw [if_pos (by omega), hT hk]; exact ihF
    have hok2 : okB s[i] = true := by rw [hok, decide_eq_true (by omega), decide_eq_true (by omega)]; rfl
    rw [hok2, Bool.not_true, Bool.false_or] at hbad
    rw [if_neg (by omega)]
    by_cases h3 : s[i] = 61
    · rw [if_pos (n61.1 h3)]
      rw [h3, beq_self_eq_true, Bool.true_and] at hbad
      by_cases h4 : i + 1 < s.length
      · have n63 := u8n s[i + 1] 63
        rw [show ((63 : UInt8).toNat : Int) = 63 from rfl] at n63
        rw [decide_eq_true h4, Bool.true_and, List.getD_eq_getElem?_getD, List.getElem?_eq_getElem h4, Option.getD_some] at hbad
        rw [if_pos (by omega), if_pos (by omega), bt_str s h4]
        by_cases h5 : s[i + 1] = 63
        · rw [if_pos (n63.1 h5), hT (by rw [hbad, h5]; rfl)]; exact ihF
        · rw [if_neg (fun h => h5 (n63.2 h)), hF (by rw [hbad]; exact beq_eq_false_iff_ne.2 h5)]; exact ih
      · rw [decide_eq_false h4, Bool.false_and] at hbad
        rw [if_neg (by omega), hF hbad]; exact ih
    · rw [beq_eq_false_iff_ne.2 h3, Bool.false_and, Bool.false_and] at hbad
      rw [if_neg (fun h => h3 (n61.2 h)), hF hbad]; exact ih
theorem Header_f (s : Bytes) (hs : s.length ≤ 100000) : watchfireref29_Header.f (3 * s.length + 3) (str s) = some (str (headM s)) := by
  have hj : ∀ b, b = endsB s → watchfireref29_Header.j0 (3 * s.length + 3) (str s) b = some (str (headM s)) := by
    rintro b rfl
    have h := head_l0 s hs s.length 0 (endsB s) (by omega)
    rw [show 3 * s.length + 3 = (s.length + (2 * s.length + 2)) + 1 by omega, watchfireref29_Header.j0]
    refine h.trans ?_
    unfold headM
    rw [print_eq, List.range_eq_range']
    split <;> rfl
  unfold watchfireref29_Header.f
  rw [str_tl]
  by_cases h0 : s = []
  · subst h0
    rw [if_pos rfl]
    exact hj _ rfl
  have hl : 0 < s.length := List.length_pos_iff.2 h0
  have hw : wrap64 ((s.length : Int) - 1) = ((s.length - 1 : Nat) : Int) := by rw [w64_in _ (by omega)]; omega
  have g0 : s.getD 0 0 = s[0] := by rw [List.getD_eq_getElem?_getD, List.getElem?_eq_getElem hl]; rfl
  have g1 : s.getD (s.length - 1) 0 = s[s.length - 1] := by rw [List.getD_eq_getElem?_getD, List.getElem?_eq_getElem (by omega)]; rfl
  have he : endsB s = (s[0] != 32 && s[s.length - 1] != 32) := by
    unfold endsB
    rw [g0, g1]
    cases s with
    | nil => exact absurd rfl h0
    | cons a r => rfl
  rw [if_neg h0, str_size, if_pos (by omega), hw, show (0 : Int) = ((0 : Nat) : Int) from rfl, bt_str s hl, bt_str s (show s.length - 1 < s.length by omega)]
  have n0 := u8n s[0] 32
  have n1 := u8n s[s.length - 1] 32
  rw [show ((32 : UInt8).toNat : Int) = 32 from rfl] at n0 n1
  by_cases h1 : s[0] = 32
  · rw [if_pos (n0.1 h1)]
    refine hj _ ?_
    rw [he, h1]; rfl
  · rw [if_neg (fun h => h1 (n0.2 h)), if_pos (by omega), if_pos (by omega)]
    refine hj _ ?_
    rw [he, bne_iff_ne.2 h1, Bool.true_and]
    by_cases h2 : s[s.length - 1] = 32
    · rw [n1.1 h2, h2]; rfl
    · rw [bne_iff_ne.2 h2, bne_iff_ne.2 (fun h => h2 (n1.2 h))]
end Go.Proofs.YtllhpkpckjacfaaGreatDoor
