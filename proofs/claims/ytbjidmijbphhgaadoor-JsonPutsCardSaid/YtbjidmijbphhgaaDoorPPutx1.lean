-- PRINTED BY print.sh 35421559b90ae4d0a3588c463048766b98c2df88dd9212a6774a882060cdf62d: not written by this session
import Derived.Test.YtbjidmijbphhgaaDoorPPutx0
namespace Go.Proofs.YtbjidmijbphhgaaDoor.PPut
open Go.RowKit Go.Proofs.YtbjidmijbphhgaaDoorW.PrintWords Go.Proofs.YtbjidmijbphhgaaDoorW.PrintLast Go.Proofs.YtbjidmijbphhgaaDoorW.PrintMore
attribute [local go_sem] max2_int min2_int max_two min_two max_three min_three max_four min_four   -- for this text's walks alone
set_option linter.unusedVariables false
set_option linter.unusedSimpArgs false

/-! ### watchfireref24_in: function 56 -/
def watchfireref24_in.l0 : Nat → List (S36) → Int → Int → Option (Bool)
  | 0, _, _, _ => none
  | k + 1, x0, x1, x2 => if x1 > x2 then (if 0 ≤ x1 then (if x1 < (x0.length : Int) then (watchfireref24_in.l0 k x0 ((rd_T36 x0 x1).f0) x2) else (none)) else (none)) else (some (x1 == x2))
def watchfireref24_in.f (k : Nat) (l0 : List (S36)) (a1 : Int) (a2 : Int) : Option (Bool) := watchfireref24_in.l0 k l0 a1 a2
theorem watchfireref24_in.mono_l : ∀ k, (∀ y0 y1 y2, LeO (watchfireref24_in.l0 k y0 y1 y2) (watchfireref24_in.l0 (k + 1) y0 y1 y2))
  | 0 => fun _ _ _ r h => by simp [watchfireref24_in.l0] at h
  | k + 1 => by
    have ih0 := watchfireref24_in.mono_l k
    · intro y0 y1 y2
      unfold watchfireref24_in.l0
      repeat' first
      | (with_reducible exact ih0 _ _ _)
      | (with_reducible exact LeO.refl _)
      | (with_reducible exact LeO.none _)
      | (with_reducible refine LeO.ite ?_ ?_)
      | (with_reducible refine LeO.bind ?_ (fun _ => ?_))
      | exact ih0 _ _ _
      | exact LeO.none _
      | refine LeO.ite ?_ ?_
      | refine LeO.bind ?_ (fun _ => ?_)
theorem watchfireref24_in.mono : ∀ a0 a1 a2 k, LeO (watchfireref24_in.f k a0 a1 a2) (watchfireref24_in.f (k + 1) a0 a1 a2) := by
  intro a0 a1 a2 k
  have ih0 := watchfireref24_in.mono_l k
  unfold watchfireref24_in.f
  repeat' first
      | (with_reducible exact ih0 _ _ _)
      | (with_reducible exact LeO.refl _)
      | (with_reducible exact LeO.none _)
      | (with_reducible refine LeO.ite ?_ ?_)
      | (with_reducible refine LeO.bind ?_ (fun _ => ?_))
      | exact ih0 _ _ _
      | exact LeO.none _
      | refine LeO.ite ?_ ?_
      | refine LeO.bind ?_ (fun _ => ?_)
set_option maxHeartbeats 8000000 in
set_option maxRecDepth 100000 in
theorem watchfireref24_in.calls (k : Nat) (A0 : Option Addr) (c0 : Nat) (l0 : List (S36)) (a1 : Int) (a2 : Int) (r : Bool) (w : World) (hr0 : Kd.C k36 w A0 l0.length l0) (hc0 : l0.length ≤ c0) (h : watchfireref24_in.f k l0 a1 a2 = some r) :
    Calls Tryd.prog 56 #[.slice A0 l0.length c0, .int .i64 a1, .int .i64 a2] w fun e w' => e = .returned (.bool r) ∧ Drawn0 w w' := by
  have HR0 := Aside0.mk hr0
  have HC0 := Aside0.mk hc0
  clear hr0 hc0
  have H : (watchfireref24_in.l0 k l0 a1 a2) = some r := h
  clear h
  have H' := Aside0.mk H
  clear H
  go_enter Tryd.func56, Tryd.ntmps56
  go_wp2
  go_loopg [1] k (fun kq v1 w' => ∃ (x1_1 : Int), v1 = .int .i64 x1_1 ∧ Aside0 (watchfireref24_in.l0 kq l0 x1_1 a2 = some r) ∧ Aside0 (kq ≤ k) ∧ Drawn0 w w')
  case atStart => exact ⟨(a1), (by first | rfl | (simp; done) | (simp [*]; done)), H', ⟨Nat.le_refl _⟩, by repeat (first | exact Drawn0.refl _ | apply Drawn0.step)⟩
  case round =>
    clear H'
    try clear p2
    obtain ⟨x1_1, rfl, HA, HK1, ⟨m1, rfl⟩⟩ := hrel
    cases gk with
    | zero => exact absurd HA.out (by simp [watchfireref24_in.l0])
    | succ k1 =>
      have H := HA.out
      clear HA
      simp only [watchfireref24_in.l0] at H
      by_cases c4 : x1_1 > a2
      · rw [if_pos c4] at H
        have c4b0 : decide (a2 < x1_1) = true := decide_eq_true c4
        clear c4
        by_cases c5 : 0 ≤ x1_1
        · rw [if_pos c5] at H
          have c5b0 : decide (0 ≤ x1_1) = true := decide_eq_true c5
          clear c5
          by_cases c6 : x1_1 < (l0.length : Int)
          · rw [if_pos c6] at H
            have c6b0 : decide (x1_1 < (l0.length : Int)) = true := decide_eq_true c6
            clear c6
            have H' := Aside0.mk H
            clear H
            have p101 : 0 ≤ (x1_1 : Int) := of_decide_eq_true (by first | (with_reducible assumption) | assumption)
            have q101 : x1_1 < (l0.length : Int) := of_decide_eq_true (by first | (with_reducible assumption) | assumption)
            obtain ⟨ad101, e101, hx101_0, hx101_1, hx101_2, hx101_3⟩ := at_T36 HR0.out x1_1 p101 q101
            cases e101
            replace p101 := eq_true p101
            replace q101 := eq_true q101
            go_wp2
            go_roundg k1
            case measure => have := HK1.out; omega
            case rel => exact ⟨((rd_T36 l0 x1_1).f0), (by first | rfl | (simp; done) | (simp [*]; done)), H', ⟨by have := HK1.out; omega⟩, by repeat (first | exact Drawn0.refl _ | apply Drawn0.step)⟩
          · rw [if_neg c6] at H
            exact absurd H (by simp)
        · rw [if_neg c5] at H
          exact absurd H (by simp)
      · rw [if_neg c4] at H
        have c4b0 : decide (a2 < x1_1) = false := decide_eq_false c4
        clear c4
        obtain rfl := Option.some.inj H
        go_wp2
        go_ret
        exact ⟨by first | rfl | (simp; done) | (simp [*]; done), by repeat (first | exact Drawn0.refl _ | apply Drawn0.step)⟩

/-! ### watchfireref24_deep: function 57 -/
def watchfireref24_deep.l0 : Nat → List (S36) → Int → Int → Option (Int)
  | 0, _, _, _ => none
  | k + 1, x0, x1, x5 => if 0 ≤ x1 then (if x1 < (x0.length : Int) then (if ((rd_T36 x0 x1).f0) ≥ 0 then (watchfireref24_deep.l0 k x0 ((rd_T36 x0 x1).f0) (wrap64 (x5 + 1))) else (some x5)) else (none)) else (none)
def watchfireref24_deep.f (k : Nat) (l0 : List (S36)) (a1 : Int) : Option (Int) := watchfireref24_deep.l0 k l0 a1 0
theorem watchfireref24_deep.mono_l : ∀ k, (∀ y0 y1 y2, LeO (watchfireref24_deep.l0 k y0 y1 y2) (watchfireref24_deep.l0 (k + 1) y0 y1 y2))
  | 0 => fun _ _ _ r h => by simp [watchfireref24_deep.l0] at h
  | k + 1 => by
    have ih0 := watchfireref24_deep.mono_l k
    · intro y0 y1 y2
      unfold watchfireref24_deep.l0
      repeat' first
      | (with_reducible exact ih0 _ _ _)
      | (with_reducible exact LeO.refl _)
      | (with_reducible exact LeO.none _)
      | (with_reducible refine LeO.ite ?_ ?_)
      | (with_reducible refine LeO.bind ?_ (fun _ => ?_))
      | exact ih0 _ _ _
      | exact LeO.none _
      | refine LeO.ite ?_ ?_
      | refine LeO.bind ?_ (fun _ => ?_)
theorem watchfireref24_deep.mono : ∀ a0 a1 k, LeO (watchfireref24_deep.f k a0 a1) (watchfireref24_deep.f (k + 1) a0 a1) := by
  intro a0 a1 k
  have ih0 := watchfireref24_deep.mono_l k
  unfold watchfireref24_deep.f
  repeat' first
      | (with_reducible exact ih0 _ _ _)
      | (with_reducible exact LeO.refl _)
      | (with_reducible exact LeO.none _)
      | (with_reducible refine LeO.ite ?_ ?_)
      | (with_reducible refine LeO.bind ?_ (fun _ => ?_))
      | exact ih0 _ _ _
      | exact LeO.none _
      | refine LeO.ite ?_ ?_
      | refine LeO.bind ?_ (fun _ => ?_)
set_option maxHeartbeats 8000000 in
set_option maxRecDepth 100000 in
theorem watchfireref24_deep.calls (k : Nat) (A0 : Option Addr) (c0 : Nat) (l0 : List (S36)) (a1 : Int) (r : Int) (w : World) (hr0 : Kd.C k36 w A0 l0.length l0) (hc0 : l0.length ≤ c0) (h : watchfireref24_deep.f k l0 a1 = some r) :
    Calls Tryd.prog 57 #[.slice A0 l0.length c0, .int .i64 a1] w fun e w' => e = .returned (.int .i64 r) ∧ Drawn0 w w' := by
  have HR0 := Aside0.mk hr0
  have HC0 := Aside0.mk hc0
  clear hr0 hc0
  have H : (watchfireref24_deep.l0 k l0 a1 0) = some r := h
  clear h
  have H' := Aside0.mk H
  clear H
  go_enter Tryd.func57, Tryd.ntmps57
  go_wp2
  go_loopg [1, 5] k (fun kq v1 v5 w' => ∃ (x1_1 : Int) (x5_1 : Int), v1 = .int .i64 x1_1 ∧ v5 = .int .i64 x5_1 ∧ Aside0 (watchfireref24_deep.l0 kq l0 x1_1 x5_1 = some r) ∧ Aside0 (kq ≤ k) ∧ Drawn0 w w')
  case atStart => exact ⟨(a1), (0), (by first | rfl | (simp; done) | (simp [*]; done)), (by first | rfl | (simp; done) | (simp [*]; done)), H', ⟨Nat.le_refl _⟩, by repeat (first | exact Drawn0.refl _ | apply Drawn0.step)⟩
  case round =>
    clear H'
    try clear p2
    obtain ⟨x1_1, x5_1, rfl, rfl, HA, HK1, ⟨m1, rfl⟩⟩ := hrel
    cases gk with
    | zero => exact absurd HA.out (by simp [watchfireref24_deep.l0])
    | succ k1 =>
      have H := HA.out
      clear HA
      simp only [watchfireref24_deep.l0] at H
      by_cases c3 : 0 ≤ x1_1
      · rw [if_pos c3] at H
        have c3b0 : decide (0 ≤ x1_1) = true := decide_eq_true c3
        clear c3
        by_cases c4 : x1_1 < (l0.length : Int)
        · rw [if_pos c4] at H
          have c4b0 : decide (x1_1 < (l0.length : Int)) = true := decide_eq_true c4
          clear c4
          by_cases c5 : ((rd_T36 l0 x1_1).f0) ≥ 0
          · rw [if_pos c5] at H
            have c5b0 : decide (0 ≤ ((rd_T36 l0 x1_1).f0)) = true := decide_eq_true c5
            clear c5
            have H' := Aside0.mk H
            clear H
            have p102 : 0 ≤ (x1_1 : Int) := of_decide_eq_true (by first | (with_reducible assumption) | assumption)
            have q102 : x1_1 < (l0.length : Int) := of_decide_eq_true (by first | (with_reducible assumption) | assumption)
            obtain ⟨ad102, e102, hx102_0, hx102_1, hx102_2, hx102_3⟩ := at_T36 HR0.out x1_1 p102 q102
            cases e102
            replace p102 := eq_true p102
            replace q102 := eq_true q102
            have p103 : 0 ≤ (x1_1 : Int) := of_decide_eq_true (by first | (with_reducible assumption) | assumption)
            have q103 : x1_1 < (l0.length : Int) := of_decide_eq_true (by first | (with_reducible assumption) | assumption)
            obtain ⟨ad103, e103, hx103_0, hx103_1, hx103_2, hx103_3⟩ := at_T36 HR0.out x1_1 p103 q103
            obtain rfl : ad102 = ad103 := (by injection e103)
            replace p103 := eq_true p103
            replace q103 := eq_true q103
            go_wp2
            go_roundg k1
            case measure => have := HK1.out; omega
            case rel => exact ⟨((rd_T36 l0 x1_1).f0), (wrap64 (x5_1 + 1)), (by first | rfl | (simp; done) | (simp [*]; done)), (by first | rfl | (simp; done) | (simp [*]; done)), H', ⟨by have := HK1.out; omega⟩, by repeat (first | exact Drawn0.refl _ | apply Drawn0.step)⟩
          · rw [if_neg c5] at H
            have c5b0 : decide (0 ≤ ((rd_T36 l0 x1_1).f0)) = false := decide_eq_false c5
            clear c5
            obtain rfl := Option.some.inj H
            have p102 : 0 ≤ (x1_1 : Int) := of_decide_eq_true (by first | (with_reducible assumption) | assumption)
            have q102 : x1_1 < (l0.length : Int) := of_decide_eq_true (by first | (with_reducible assumption) | assumption)
            obtain ⟨ad102, e102, hx102_0, hx102_1, hx102_2, hx102_3⟩ := at_T36 HR0.out x1_1 p102 q102
            cases e102
            replace p102 := eq_true p102
            replace q102 := eq_true q102
            go_wp2
            go_ret
            exact ⟨by first | rfl | (simp; done) | (simp [*]; done), by repeat (first | exact Drawn0.refl _ | apply Drawn0.step)⟩
        · rw [if_neg c4] at H
          exact absurd H (by simp)
      · rw [if_neg c3] at H
        exact absurd H (by simp)

/-! ### watchfireref24_place: function 42 -/
def watchfireref24_place.f (k : Nat) (l0 : List (S36)) (a1 : Int) : Option (Bool) := if 0 ≤ a1 then (if a1 < (l0.length : Int) then (if a1 = 0 then (if ((rd_T36 l0 a1).f0) = (-1) then (some (((rd_T36 l0 a1).f2).toList == ([] : List UInt8))) else (some false)) else (if ((rd_T36 l0 a1).f0) < 0 then (some false) else (if ((rd_T36 l0 a1).f0) ≥ a1 then (some false) else (if 0 ≤ ((rd_T36 l0 a1).f0) then (if ((rd_T36 l0 a1).f0) < (l0.length : Int) then (if ((rd_T36 l0 ((rd_T36 l0 a1).f0)).f1) = 5 then ((watchfireref24_in.f k l0 (wrap64 (a1 - 1)) ((rd_T36 l0 a1).f0)).bind fun t107 => (if t107 = true then ((watchfireref24_deep.f k l0 a1).bind fun t108 => (if t108 ≥ 16 then (some false) else (if ((rd_T36 l0 a1).f2).toList = ([] : List UInt8) then (some true) else (some (((rd_T36 l0 ((rd_T36 l0 a1).f0)).f1) == 6))))) else (some false))) else (if ((rd_T36 l0 ((rd_T36 l0 a1).f0)).f1) = 6 then ((watchfireref24_in.f k l0 (wrap64 (a1 - 1)) ((rd_T36 l0 a1).f0)).bind fun t112 => (if t112 = true then ((watchfireref24_deep.f k l0 a1).bind fun t113 => (if t113 ≥ 16 then (some false) else (if ((rd_T36 l0 a1).f2).toList = ([] : List UInt8) then (some true) else (some (((rd_T36 l0 ((rd_T36 l0 a1).f0)).f1) == 6))))) else (some false))) else (some false))) else (none)) else (none))))) else (none)) else (none)
theorem watchfireref24_place.mono : ∀ a0 a1 k, LeO (watchfireref24_place.f k a0 a1) (watchfireref24_place.f (k + 1) a0 a1) := by
  intro a0 a1 k
  unfold watchfireref24_place.f
  repeat' first
      | (with_reducible exact watchfireref24_deep.mono _ _ _)
      | (with_reducible exact watchfireref24_in.mono _ _ _ _)
      | (with_reducible exact LeO.refl _)
      | (with_reducible exact LeO.none _)
      | (with_reducible refine LeO.ite ?_ ?_)
      | (with_reducible refine LeO.bind ?_ (fun _ => ?_))
      | exact watchfireref24_deep.mono _ _ _
      | exact watchfireref24_in.mono _ _ _ _
      | exact LeO.none _
      | refine LeO.ite ?_ ?_
      | refine LeO.bind ?_ (fun _ => ?_)
set_option maxHeartbeats 8000000 in
set_option maxRecDepth 100000 in
theorem watchfireref24_place.calls (k : Nat) (A0 : Option Addr) (c0 : Nat) (l0 : List (S36)) (a1 : Int) (r : Bool) (w : World) (hr0 : Kd.C k36 w A0 l0.length l0) (hc0 : l0.length ≤ c0) (h : watchfireref24_place.f k l0 a1 = some r) :
    Calls Tryd.prog 42 #[.slice A0 l0.length c0, .int .i64 a1] w fun e w' => e = .returned (.bool r) ∧ Drawn0 w w' := by
  have HR0 := Aside0.mk hr0
  have HC0 := Aside0.mk hc0
  clear hr0 hc0
  have H : (if 0 ≤ a1 then (if a1 < (l0.length : Int) then (if a1 = 0 then (if ((rd_T36 l0 a1).f0) = (-1) then (some (((rd_T36 l0 a1).f2).toList == ([] : List UInt8))) else (some false)) else (if ((rd_T36 l0 a1).f0) < 0 then (some false) else (if ((rd_T36 l0 a1).f0) ≥ a1 then (some false) else (if 0 ≤ ((rd_T36 l0 a1).f0) then (if ((rd_T36 l0 a1).f0) < (l0.length : Int) then (if ((rd_T36 l0 ((rd_T36 l0 a1).f0)).f1) = 5 then ((watchfireref24_in.f k l0 (wrap64 (a1 - 1)) ((rd_T36 l0 a1).f0)).bind fun t107 => (if t107 = true then ((watchfireref24_deep.f k l0 a1).bind fun t108 => (if t108 ≥ 16 then (some false) else (if ((rd_T36 l0 a1).f2).toList = ([] : List UInt8) then (some true) else (some (((rd_T36 l0 ((rd_T36 l0 a1).f0)).f1) == 6))))) else (some false))) else (if ((rd_T36 l0 ((rd_T36 l0 a1).f0)).f1) = 6 then ((watchfireref24_in.f k l0 (wrap64 (a1 - 1)) ((rd_T36 l0 a1).f0)).bind fun t112 => (if t112 = true then ((watchfireref24_deep.f k l0 a1).bind fun t113 => (if t113 ≥ 16 then (some false) else (if ((rd_T36 l0 a1).f2).toList = ([] : List UInt8) then (some true) else (some (((rd_T36 l0 ((rd_T36 l0 a1).f0)).f1) == 6))))) else (some false))) else (some false))) else (none)) else (none))))) else (none)) else (none)) = some r := h
  clear h
  by_cases c3 : 0 ≤ a1
  · rw [if_pos c3] at H
    have c3b0 : decide (0 ≤ a1) = true := decide_eq_true c3
    clear c3
    by_cases c4 : a1 < (l0.length : Int)
    · rw [if_pos c4] at H
      have c4b0 : decide (a1 < (l0.length : Int)) = true := decide_eq_true c4
      clear c4
      by_cases c5 : a1 = 0
      · rw [if_pos c5] at H
        have c5b0 : (a1 == 0) = true := beq_iff_eq.mpr c5
        have c5b1 : (a1 != 0) = false := bne_eq_false_iff_eq.mpr c5
        clear c5
        by_cases c6 : ((rd_T36 l0 a1).f0) = (-1)
        · rw [if_pos c6] at H
          have c6b0 : (((rd_T36 l0 a1).f0) == (-1)) = true := beq_iff_eq.mpr c6
          have c6b1 : (((rd_T36 l0 a1).f0) != (-1)) = false := bne_eq_false_iff_eq.mpr c6
          clear c6
          obtain rfl := Option.some.inj H
          have p104 : 0 ≤ (a1 : Int) := of_decide_eq_true (by first | (with_reducible assumption) | assumption)
          have q104 : a1 < (l0.length : Int) := of_decide_eq_true (by first | (with_reducible assumption) | assumption)
          obtain ⟨ad104, e104, hx104_0, hx104_1, hx104_2, hx104_3⟩ := at_T36 HR0.out a1 p104 q104
          cases e104
          replace p104 := eq_true p104
          replace q104 := eq_true q104
          have p105 : 0 ≤ (a1 : Int) := of_decide_eq_true (by first | (with_reducible assumption) | assumption)
          have q105 : a1 < (l0.length : Int) := of_decide_eq_true (by first | (with_reducible assumption) | assumption)
          obtain ⟨ad105, e105, hx105_0, hx105_1, hx105_2, hx105_3⟩ := at_T36 HR0.out a1 p105 q105
          obtain rfl : ad104 = ad105 := (by injection e105)
          replace p105 := eq_true p105
          replace q105 := eq_true q105
          go_enter Tryd.func42, Tryd.ntmps42
          go_wp2
          go_ret
          exact ⟨by first | rfl | (simp; done) | (simp [*]; done), by repeat (first | exact Drawn0.refl _ | apply Drawn0.step)⟩
        · rw [if_neg c6] at H
          have c6b0 : (((rd_T36 l0 a1).f0) == (-1)) = false := beq_eq_false_iff_ne.mpr c6
          have c6b1 : (((rd_T36 l0 a1).f0) != (-1)) = true := bne_iff_ne.mpr c6
          obtain rfl := Option.some.inj H
          have p104 : 0 ≤ (a1 : Int) := of_decide_eq_true (by first | (with_reducible assumption) | assumption)
          have q104 : a1 < (l0.length : Int) := of_decide_eq_true (by first | (with_reducible assumption) | assumption)
          obtain ⟨ad104, e104, hx104_0, hx104_1, hx104_2, hx104_3⟩ := at_T36 HR0.out a1 p104 q104
          cases e104
          replace p104 := eq_true p104
          replace q104 := eq_true q104
          go_enter Tryd.func42, Tryd.ntmps42
          go_wp2
          go_ret
          exact ⟨by first | rfl | (simp; done) | (simp [*]; done), by repeat (first | exact Drawn0.refl _ | apply Drawn0.step)⟩
      · rw [if_neg c5] at H
        have c5b0 : (a1 == 0) = false := beq_eq_false_iff_ne.mpr c5
        have c5b1 : (a1 != 0) = true := bne_iff_ne.mpr c5
        by_cases c7 : ((rd_T36 l0 a1).f0) < 0
        · rw [if_pos c7] at H
          have c7b0 : decide (((rd_T36 l0 a1).f0) < 0) = true := decide_eq_true c7
          clear c7
          obtain rfl := Option.some.inj H
          have p104 : 0 ≤ (a1 : Int) := of_decide_eq_true (by first | (with_reducible assumption) | assumption)
          have q104 : a1 < (l0.length : Int) := of_decide_eq_true (by first | (with_reducible assumption) | assumption)
          obtain ⟨ad104, e104, hx104_0, hx104_1, hx104_2, hx104_3⟩ := at_T36 HR0.out a1 p104 q104
          cases e104
          replace p104 := eq_true p104
          replace q104 := eq_true q104
          go_enter Tryd.func42, Tryd.ntmps42
          go_wp2
          go_ret
          exact ⟨by first | rfl | (simp; done) | (simp [*]; done), by repeat (first | exact Drawn0.refl _ | apply Drawn0.step)⟩
        · rw [if_neg c7] at H
          have c7b0 : decide (((rd_T36 l0 a1).f0) < 0) = false := decide_eq_false c7
          clear c7
          by_cases c8 : ((rd_T36 l0 a1).f0) ≥ a1
          · rw [if_pos c8] at H
            have c8b0 : decide (a1 ≤ ((rd_T36 l0 a1).f0)) = true := decide_eq_true c8
            clear c8
            obtain rfl := Option.some.inj H
            have p104 : 0 ≤ (a1 : Int) := of_decide_eq_true (by first | (with_reducible assumption) | assumption)
            have q104 : a1 < (l0.length : Int) := of_decide_eq_true (by first | (with_reducible assumption) | assumption)
            obtain ⟨ad104, e104, hx104_0, hx104_1, hx104_2, hx104_3⟩ := at_T36 HR0.out a1 p104 q104
            cases e104
            replace p104 := eq_true p104
            replace q104 := eq_true q104
            go_enter Tryd.func42, Tryd.ntmps42
            go_wp2
            go_ret
            exact ⟨by first | rfl | (simp; done) | (simp [*]; done), by repeat (first | exact Drawn0.refl _ | apply Drawn0.step)⟩
          · rw [if_neg c8] at H
            have c8b0 : decide (a1 ≤ ((rd_T36 l0 a1).f0)) = false := decide_eq_false c8
            clear c8
            by_cases c9 : 0 ≤ ((rd_T36 l0 a1).f0)
            · rw [if_pos c9] at H
              have c9b0 : decide (0 ≤ ((rd_T36 l0 a1).f0)) = true := decide_eq_true c9
              clear c9
              by_cases c10 : ((rd_T36 l0 a1).f0) < (l0.length : Int)
              · rw [if_pos c10] at H
                have c10b0 : decide (((rd_T36 l0 a1).f0) < (l0.length : Int)) = true := decide_eq_true c10
                clear c10
                by_cases c11 : ((rd_T36 l0 ((rd_T36 l0 a1).f0)).f1) = 5
                · rw [if_pos c11] at H
                  have c11b0 : (((rd_T36 l0 ((rd_T36 l0 a1).f0)).f1) == 5) = true := beq_iff_eq.mpr c11
                  have c11b1 : (((rd_T36 l0 ((rd_T36 l0 a1).f0)).f1) != 5) = false := bne_eq_false_iff_eq.mpr c11
                  clear c11
                  replace H := Option.bind_eq_some_iff.mp H
                  obtain ⟨t107, A120, H⟩ := H
                  replace H : (if t107 = true then ((watchfireref24_deep.f k l0 a1).bind fun t108 => (if t108 ≥ 16 then (some false) else (if ((rd_T36 l0 a1).f2).toList = ([] : List UInt8) then (some true) else (some (((rd_T36 l0 ((rd_T36 l0 a1).f0)).f1) == 6))))) else (some false)) = some r := H
                  have A12 := Aside0.mk A120
                  clear A120
                  by_cases c13 : t107 = true
                  · subst c13
                    have H1 : ((watchfireref24_deep.f k l0 a1).bind fun t108 => (if t108 ≥ 16 then (some false) else (if ((rd_T36 l0 a1).f2).toList = ([] : List UInt8) then (some true) else (some (((rd_T36 l0 ((rd_T36 l0 a1).f0)).f1) == 6))))) = some r := by rw [if_pos rfl] at H; exact H
                    clear H
                    have H := H1
                    clear H1
                    replace H := Option.bind_eq_some_iff.mp H
                    obtain ⟨t108, A140, H⟩ := H
                    replace H : (if t108 ≥ 16 then (some false) else (if ((rd_T36 l0 a1).f2).toList = ([] : List UInt8) then (some true) else (some (((rd_T36 l0 ((rd_T36 l0 a1).f0)).f1) == 6)))) = some r := H
                    have A14 := Aside0.mk A140
                    clear A140
                    by_cases c15 : t108 ≥ 16
                    · rw [if_pos c15] at H
                      have c15b0 : decide (16 ≤ t108) = true := decide_eq_true c15
                      clear c15
                      obtain rfl := Option.some.inj H
                      have p104 : 0 ≤ (a1 : Int) := of_decide_eq_true (by first | (with_reducible assumption) | assumption)
                      have q104 : a1 < (l0.length : Int) := of_decide_eq_true (by first | (with_reducible assumption) | assumption)
                      obtain ⟨ad104, e104, hx104_0, hx104_1, hx104_2, hx104_3⟩ := at_T36 HR0.out a1 p104 q104
                      cases e104
                      replace p104 := eq_true p104
                      replace q104 := eq_true q104
                      have p106 : 0 ≤ (((rd_T36 l0 a1).f0) : Int) := of_decide_eq_true (by first | (with_reducible assumption) | assumption)
                      have q106 : ((rd_T36 l0 a1).f0) < (l0.length : Int) := of_decide_eq_true (by first | (with_reducible assumption) | assumption)
                      obtain ⟨ad106, e106, hx106_0, hx106_1, hx106_2, hx106_3⟩ := at_T36 HR0.out ((rd_T36 l0 a1).f0) p106 q106
                      obtain rfl : ad104 = ad106 := (by injection e106)
                      replace p106 := eq_true p106
                      replace q106 := eq_true q106
                      go_enter Tryd.func42, Tryd.ntmps42
                      go_wp2_with (first | (go_at_call 56; (with_reducible refine (watchfireref24_in.calls k _ _ l0 (wrap64 (a1 - 1)) ((rd_T36 l0 a1).f0) true _ ?side1 ?side2 A12.out).mono ?_); (case side1 => repeat (first | exact HR0.out | (with_reducible refine Kd.C_alloc ?_ _) | (with_reducible refine Kd.C_drewN ?_ _) | (with_reducible refine Kd.C_drew ?_))); (case side2 => exact HC0.out); rintro e w' ⟨rfl, ⟨nd, rfl⟩⟩) | (go_at_call 57; (with_reducible refine (watchfireref24_deep.calls k _ _ l0 a1 t108 _ ?side1 ?side2 A14.out).mono ?_); (case side1 => repeat (first | exact HR0.out | (with_reducible refine Kd.C_alloc ?_ _) | (with_reducible refine Kd.C_drewN ?_ _) | (with_reducible refine Kd.C_drew ?_))); (case side2 => exact HC0.out); rintro e w' ⟨rfl, ⟨nd, rfl⟩⟩))
                      go_ret
                      exact ⟨by first | rfl | (simp; done) | (simp [*]; done), by repeat (first | exact Drawn0.refl _ | apply Drawn0.step)⟩
                    · rw [if_neg c15] at H
                      have c15b0 : decide (16 ≤ t108) = false := decide_eq_false c15
                      clear c15
                      by_cases c16 : ((rd_T36 l0 a1).f2).toList = ([] : List UInt8)
                      · rw [if_pos c16] at H
                        have c16b0 : (((rd_T36 l0 a1).f2).toList == ([] : List UInt8)) = true := beq_iff_eq.mpr c16
                        have c16b1 : (((rd_T36 l0 a1).f2).toList != ([] : List UInt8)) = false := bne_eq_false_iff_eq.mpr c16
                        clear c16
                        obtain rfl := Option.some.inj H
                        have p104 : 0 ≤ (a1 : Int) := of_decide_eq_true (by first | (with_reducible assumption) | assumption)
                        have q104 : a1 < (l0.length : Int) := of_decide_eq_true (by first | (with_reducible assumption) | assumption)
                        obtain ⟨ad104, e104, hx104_0, hx104_1, hx104_2, hx104_3⟩ := at_T36 HR0.out a1 p104 q104
                        cases e104
                        replace p104 := eq_true p104
                        replace q104 := eq_true q104
                        have p106 : 0 ≤ (((rd_T36 l0 a1).f0) : Int) := of_decide_eq_true (by first | (with_reducible assumption) | assumption)
                        have q106 : ((rd_T36 l0 a1).f0) < (l0.length : Int) := of_decide_eq_true (by first | (with_reducible assumption) | assumption)
                        obtain ⟨ad106, e106, hx106_0, hx106_1, hx106_2, hx106_3⟩ := at_T36 HR0.out ((rd_T36 l0 a1).f0) p106 q106
                        obtain rfl : ad104 = ad106 := (by injection e106)
                        replace p106 := eq_true p106
                        replace q106 := eq_true q106
                        go_enter Tryd.func42, Tryd.ntmps42
                        go_wp2_with (first | (go_at_call 56; (with_reducible refine (watchfireref24_in.calls k _ _ l0 (wrap64 (a1 - 1)) ((rd_T36 l0 a1).f0) true _ ?side1 ?side2 A12.out).mono ?_); (case side1 => repeat (first | exact HR0.out | (with_reducible refine Kd.C_alloc ?_ _) | (with_reducible refine Kd.C_drewN ?_ _) | (with_reducible refine Kd.C_drew ?_))); (case side2 => exact HC0.out); rintro e w' ⟨rfl, ⟨nd, rfl⟩⟩) | (go_at_call 57; (with_reducible refine (watchfireref24_deep.calls k _ _ l0 a1 t108 _ ?side1 ?side2 A14.out).mono ?_); (case side1 => repeat (first | exact HR0.out | (with_reducible refine Kd.C_alloc ?_ _) | (with_reducible refine Kd.C_drewN ?_ _) | (with_reducible refine Kd.C_drew ?_))); (case side2 => exact HC0.out); rintro e w' ⟨rfl, ⟨nd, rfl⟩⟩; have p109 : 0 ≤ (a1 : Int) := of_decide_eq_true (by first | (with_reducible assumption) | assumption); have q109 : a1 < (l0.length : Int) := of_decide_eq_true (by first | (with_reducible assumption) | assumption); obtain ⟨ad109, e109, hx109_0, hx109_1, hx109_2, hx109_3⟩ := at_T36 HR0.out a1 p109 q109; obtain rfl : ad104 = ad109 := (by injection e109); replace p109 := eq_true p109; replace q109 := eq_true q109))
                        go_ret
                        exact ⟨by first | rfl | (simp; done) | (simp [*]; done), by repeat (first | exact Drawn0.refl _ | apply Drawn0.step)⟩
                      · rw [if_neg c16] at H
                        have c16b0 : (((rd_T36 l0 a1).f2).toList == ([] : List UInt8)) = false := beq_eq_false_iff_ne.mpr c16
                        have c16b1 : (((rd_T36 l0 a1).f2).toList != ([] : List UInt8)) = true := bne_iff_ne.mpr c16
                        obtain rfl := Option.some.inj H
                        have p104 : 0 ≤ (a1 : Int) := of_decide_eq_true (by first | (with_reducible assumption) | assumption)
                        have q104 : a1 < (l0.length : Int) := of_decide_eq_true (by first | (with_reducible assumption) | assumption)
                        obtain ⟨ad104, e104, hx104_0, hx104_1, hx104_2, hx104_3⟩ := at_T36 HR0.out a1 p104 q104
                        cases e104
                        replace p104 := eq_true p104
                        replace q104 := eq_true q104
                        have p106 : 0 ≤ (((rd_T36 l0 a1).f0) : Int) := of_decide_eq_true (by first | (with_reducible assumption) | assumption)
                        have q106 : ((rd_T36 l0 a1).f0) < (l0.length : Int) := of_decide_eq_true (by first | (with_reducible assumption) | assumption)
                        obtain ⟨ad106, e106, hx106_0, hx106_1, hx106_2, hx106_3⟩ := at_T36 HR0.out ((rd_T36 l0 a1).f0) p106 q106
                        obtain rfl : ad104 = ad106 := (by injection e106)
                        replace p106 := eq_true p106
                        replace q106 := eq_true q106
                        go_enter Tryd.func42, Tryd.ntmps42
                        go_wp2_with (first | (go_at_call 56; (with_reducible refine (watchfireref24_in.calls k _ _ l0 (wrap64 (a1 - 1)) ((rd_T36 l0 a1).f0) true _ ?side1 ?side2 A12.out).mono ?_); (case side1 => repeat (first | exact HR0.out | (with_reducible refine Kd.C_alloc ?_ _) | (with_reducible refine Kd.C_drewN ?_ _) | (with_reducible refine Kd.C_drew ?_))); (case side2 => exact HC0.out); rintro e w' ⟨rfl, ⟨nd, rfl⟩⟩) | (go_at_call 57; (with_reducible refine (watchfireref24_deep.calls k _ _ l0 a1 t108 _ ?side1 ?side2 A14.out).mono ?_); (case side1 => repeat (first | exact HR0.out | (with_reducible refine Kd.C_alloc ?_ _) | (with_reducible refine Kd.C_drewN ?_ _) | (with_reducible refine Kd.C_drew ?_))); (case side2 => exact HC0.out); rintro e w' ⟨rfl, ⟨nd, rfl⟩⟩; have p109 : 0 ≤ (a1 : Int) := of_decide_eq_true (by first | (with_reducible assumption) | assumption); have q109 : a1 < (l0.length : Int) := of_decide_eq_true (by first | (with_reducible assumption) | assumption); obtain ⟨ad109, e109, hx109_0, hx109_1, hx109_2, hx109_3⟩ := at_T36 HR0.out a1 p109 q109; obtain rfl : ad104 = ad109 := (by injection e109); replace p109 := eq_true p109; replace q109 := eq_true q109; have p110 : 0 ≤ (((rd_T36 l0 a1).f0) : Int) := of_decide_eq_true (by first | (with_reducible assumption) | assumption); have q110 : ((rd_T36 l0 a1).f0) < (l0.length : Int) := of_decide_eq_true (by first | (with_reducible assumption) | assumption); obtain ⟨ad110, e110, hx110_0, hx110_1, hx110_2, hx110_3⟩ := at_T36 HR0.out ((rd_T36 l0 a1).f0) p110 q110; obtain rfl : ad104 = ad110 := (by injection e110); replace p110 := eq_true p110; replace q110 := eq_true q110))
                        go_ret
                        exact ⟨by first | rfl | (simp; done) | (simp [*]; done), by repeat (first | exact Drawn0.refl _ | apply Drawn0.step)⟩
                  · replace c13 := Bool.eq_false_iff.mpr c13
                    subst c13
                    have H1 : (some false) = some r := by rw [if_neg (show ¬ (false = true) by decide)] at H; exact H
                    clear H
                    have H := H1
                    clear H1
                    obtain rfl := Option.some.inj H
                    have p104 : 0 ≤ (a1 : Int) := of_decide_eq_true (by first | (with_reducible assumption) | assumption)
                    have q104 : a1 < (l0.length : Int) := of_decide_eq_true (by first | (with_reducible assumption) | assumption)
                    obtain ⟨ad104, e104, hx104_0, hx104_1, hx104_2, hx104_3⟩ := at_T36 HR0.out a1 p104 q104
                    cases e104
                    replace p104 := eq_true p104
                    replace q104 := eq_true q104
                    have p106 : 0 ≤ (((rd_T36 l0 a1).f0) : Int) := of_decide_eq_true (by first | (with_reducible assumption) | assumption)
                    have q106 : ((rd_T36 l0 a1).f0) < (l0.length : Int) := of_decide_eq_true (by first | (with_reducible assumption) | assumption)
                    obtain ⟨ad106, e106, hx106_0, hx106_1, hx106_2, hx106_3⟩ := at_T36 HR0.out ((rd_T36 l0 a1).f0) p106 q106
                    obtain rfl : ad104 = ad106 := (by injection e106)
                    replace p106 := eq_true p106
                    replace q106 := eq_true q106
                    go_enter Tryd.func42, Tryd.ntmps42
                    go_wp2_with (first | (go_at_call 56; (with_reducible refine (watchfireref24_in.calls k _ _ l0 (wrap64 (a1 - 1)) ((rd_T36 l0 a1).f0) false _ ?side1 ?side2 A12.out).mono ?_); (case side1 => repeat (first | exact HR0.out | (with_reducible refine Kd.C_alloc ?_ _) | (with_reducible refine Kd.C_drewN ?_ _) | (with_reducible refine Kd.C_drew ?_))); (case side2 => exact HC0.out); rintro e w' ⟨rfl, ⟨nd, rfl⟩⟩))
                    go_ret
                    exact ⟨by first | rfl | (simp; done) | (simp [*]; done), by repeat (first | exact Drawn0.refl _ | apply Drawn0.step)⟩
                · rw [if_neg c11] at H
                  have c11b0 : (((rd_T36 l0 ((rd_T36 l0 a1).f0)).f1) == 5) = false := beq_eq_false_iff_ne.mpr c11
                  have c11b1 : (((rd_T36 l0 ((rd_T36 l0 a1).f0)).f1) != 5) = true := bne_iff_ne.mpr c11
                  by_cases c17 : ((rd_T36 l0 ((rd_T36 l0 a1).f0)).f1) = 6
                  · rw [if_pos c17] at H
                    have c17b0 : (((rd_T36 l0 ((rd_T36 l0 a1).f0)).f1) == 6) = true := beq_iff_eq.mpr c17
                    have c17b1 : (((rd_T36 l0 ((rd_T36 l0 a1).f0)).f1) != 6) = false := bne_eq_false_iff_eq.mpr c17
                    clear c17
                    replace H := Option.bind_eq_some_iff.mp H
                    obtain ⟨t112, A180, H⟩ := H
                    replace H : (if t112 = true then ((watchfireref24_deep.f k l0 a1).bind fun t113 => (if t113 ≥ 16 then (some false) else (if ((rd_T36 l0 a1).f2).toList = ([] : List UInt8) then (some true) else (some (((rd_T36 l0 ((rd_T36 l0 a1).f0)).f1) == 6))))) else (some false)) = some r := H
                    have A18 := Aside0.mk A180
                    clear A180
                    by_cases c19 : t112 = true
                    · subst c19
                      have H1 : ((watchfireref24_deep.f k l0 a1).bind fun t113 => (if t113 ≥ 16 then (some false) else (if ((rd_T36 l0 a1).f2).toList = ([] : List UInt8) then (some true) else (some (((rd_T36 l0 ((rd_T36 l0 a1).f0)).f1) == 6))))) = some r := by rw [if_pos rfl] at H; exact H
                      clear H
                      have H := H1
                      clear H1
                      replace H := Option.bind_eq_some_iff.mp H
                      obtain ⟨t113, A200, H⟩ := H
                      replace H : (if t113 ≥ 16 then (some false) else (if ((rd_T36 l0 a1).f2).toList = ([] : List UInt8) then (some true) else (some (((rd_T36 l0 ((rd_T36 l0 a1).f0)).f1) == 6)))) = some r := H
                      have A20 := Aside0.mk A200
                      clear A200
                      by_cases c21 : t113 ≥ 16
                      · rw [if_pos c21] at H
                        have c21b0 : decide (16 ≤ t113) = true := decide_eq_true c21
                        clear c21
                        obtain rfl := Option.some.inj H
                        have p104 : 0 ≤ (a1 : Int) := of_decide_eq_true (by first | (with_reducible assumption) | assumption)
                        have q104 : a1 < (l0.length : Int) := of_decide_eq_true (by first | (with_reducible assumption) | assumption)
                        obtain ⟨ad104, e104, hx104_0, hx104_1, hx104_2, hx104_3⟩ := at_T36 HR0.out a1 p104 q104
                        cases e104
                        replace p104 := eq_true p104
                        replace q104 := eq_true q104
                        have p106 : 0 ≤ (((rd_T36 l0 a1).f0) : Int) := of_decide_eq_true (by first | (with_reducible assumption) | assumption)
                        have q106 : ((rd_T36 l0 a1).f0) < (l0.length : Int) := of_decide_eq_true (by first | (with_reducible assumption) | assumption)
                        obtain ⟨ad106, e106, hx106_0, hx106_1, hx106_2, hx106_3⟩ := at_T36 HR0.out ((rd_T36 l0 a1).f0) p106 q106
                        obtain rfl : ad104 = ad106 := (by injection e106)
                        replace p106 := eq_true p106
                        replace q106 := eq_true q106
                        have p111 : 0 ≤ (((rd_T36 l0 a1).f0) : Int) := of_decide_eq_true (by first | (with_reducible assumption) | assumption)
                        have q111 : ((rd_T36 l0 a1).f0) < (l0.length : Int) := of_decide_eq_true (by first | (with_reducible assumption) | assumption)
                        obtain ⟨ad111, e111, hx111_0, hx111_1, hx111_2, hx111_3⟩ := at_T36 HR0.out ((rd_T36 l0 a1).f0) p111 q111
                        obtain rfl : ad104 = ad111 := (by injection e111)
                        replace p111 := eq_true p111
                        replace q111 := eq_true q111
                        go_enter Tryd.func42, Tryd.ntmps42
                        go_wp2_with (first | (go_at_call 56; (with_reducible refine (watchfireref24_in.calls k _ _ l0 (wrap64 (a1 - 1)) ((rd_T36 l0 a1).f0) true _ ?side1 ?side2 A18.out).mono ?_); (case side1 => repeat (first | exact HR0.out | (with_reducible refine Kd.C_alloc ?_ _) | (with_reducible refine Kd.C_drewN ?_ _) | (with_reducible refine Kd.C_drew ?_))); (case side2 => exact HC0.out); rintro e w' ⟨rfl, ⟨nd, rfl⟩⟩) | (go_at_call 57; (with_reducible refine (watchfireref24_deep.calls k _ _ l0 a1 t113 _ ?side1 ?side2 A20.out).mono ?_); (case side1 => repeat (first | exact HR0.out | (with_reducible refine Kd.C_alloc ?_ _) | (with_reducible refine Kd.C_drewN ?_ _) | (with_reducible refine Kd.C_drew ?_))); (case side2 => exact HC0.out); rintro e w' ⟨rfl, ⟨nd, rfl⟩⟩))
                        go_ret
                        exact ⟨by first | rfl | (simp; done) | (simp [*]; done), by repeat (first | exact Drawn0.refl _ | apply Drawn0.step)⟩
                      · rw [if_neg c21] at H
                        have c21b0 : decide (16 ≤ t113) = false := decide_eq_false c21
                        clear c21
                        by_cases c22 : ((rd_T36 l0 a1).f2).toList = ([] : List UInt8)
                        · rw [if_pos c22] at H
                          have c22b0 : (((rd_T36 l0 a1).f2).toList == ([] : List UInt8)) = true := beq_iff_eq.mpr c22
                          have c22b1 : (((rd_T36 l0 a1).f2).toList != ([] : List UInt8)) = false := bne_eq_false_iff_eq.mpr c22
                          clear c22
                          obtain rfl := Option.some.inj H
                          have p104 : 0 ≤ (a1 : Int) := of_decide_eq_true (by first | (with_reducible assumption) | assumption)
                          have q104 : a1 < (l0.length : Int) := of_decide_eq_true (by first | (with_reducible assumption) | assumption)
                          obtain ⟨ad104, e104, hx104_0, hx104_1, hx104_2, hx104_3⟩ := at_T36 HR0.out a1 p104 q104
                          cases e104
                          replace p104 := eq_true p104
                          replace q104 := eq_true q104
                          have p106 : 0 ≤ (((rd_T36 l0 a1).f0) : Int) := of_decide_eq_true (by first | (with_reducible assumption) | assumption)
                          have q106 : ((rd_T36 l0 a1).f0) < (l0.length : Int) := of_decide_eq_true (by first | (with_reducible assumption) | assumption)
                          obtain ⟨ad106, e106, hx106_0, hx106_1, hx106_2, hx106_3⟩ := at_T36 HR0.out ((rd_T36 l0 a1).f0) p106 q106
                          obtain rfl : ad104 = ad106 := (by injection e106)
                          replace p106 := eq_true p106
                          replace q106 := eq_true q106
                          have p111 : 0 ≤ (((rd_T36 l0 a1).f0) : Int) := of_decide_eq_true (by first | (with_reducible assumption) | assumption)
                          have q111 : ((rd_T36 l0 a1).f0) < (l0.length : Int) := of_decide_eq_true (by first | (with_reducible assumption) | assumption)
                          obtain ⟨ad111, e111, hx111_0, hx111_1, hx111_2, hx111_3⟩ := at_T36 HR0.out ((rd_T36 l0 a1).f0) p111 q111
                          obtain rfl : ad104 = ad111 := (by injection e111)
                          replace p111 := eq_true p111
                          replace q111 := eq_true q111
                          go_enter Tryd.func42, Tryd.ntmps42
                          go_wp2_with (first | (go_at_call 56; (with_reducible refine (watchfireref24_in.calls k _ _ l0 (wrap64 (a1 - 1)) ((rd_T36 l0 a1).f0) true _ ?side1 ?side2 A18.out).mono ?_); (case side1 => repeat (first | exact HR0.out | (with_reducible refine Kd.C_alloc ?_ _) | (with_reducible refine Kd.C_drewN ?_ _) | (with_reducible refine Kd.C_drew ?_))); (case side2 => exact HC0.out); rintro e w' ⟨rfl, ⟨nd, rfl⟩⟩) | (go_at_call 57; (with_reducible refine (watchfireref24_deep.calls k _ _ l0 a1 t113 _ ?side1 ?side2 A20.out).mono ?_); (case side1 => repeat (first | exact HR0.out | (with_reducible refine Kd.C_alloc ?_ _) | (with_reducible refine Kd.C_drewN ?_ _) | (with_reducible refine Kd.C_drew ?_))); (case side2 => exact HC0.out); rintro e w' ⟨rfl, ⟨nd, rfl⟩⟩; have p114 : 0 ≤ (a1 : Int) := of_decide_eq_true (by first | (with_reducible assumption) | assumption); have q114 : a1 < (l0.length : Int) := of_decide_eq_true (by first | (with_reducible assumption) | assumption); obtain ⟨ad114, e114, hx114_0, hx114_1, hx114_2, hx114_3⟩ := at_T36 HR0.out a1 p114 q114; obtain rfl : ad104 = ad114 := (by injection e114); replace p114 := eq_true p114; replace q114 := eq_true q114))
                          go_ret
                          exact ⟨by first | rfl | (simp; done) | (simp [*]; done), by repeat (first | exact Drawn0.refl _ | apply Drawn0.step)⟩
                        · rw [if_neg c22] at H
                          have c22b0 : (((rd_T36 l0 a1).f2).toList == ([] : List UInt8)) = false := beq_eq_false_iff_ne.mpr c22
                          have c22b1 : (((rd_T36 l0 a1).f2).toList != ([] : List UInt8)) = true := bne_iff_ne.mpr c22
                          obtain rfl := Option.some.inj H
                          have p104 : 0 ≤ (a1 : Int) := of_decide_eq_true (by first | (with_reducible assumption) | assumption)
                          have q104 : a1 < (l0.length : Int) := of_decide_eq_true (by first | (with_reducible assumption) | assumption)
                          obtain ⟨ad104, e104, hx104_0, hx104_1, hx104_2, hx104_3⟩ := at_T36 HR0.out a1 p104 q104
                          cases e104
                          replace p104 := eq_true p104
                          replace q104 := eq_true q104
                          have p106 : 0 ≤ (((rd_T36 l0 a1).f0) : Int) := of_decide_eq_true (by first | (with_reducible assumption) | assumption)
                          have q106 : ((rd_T36 l0 a1).f0) < (l0.length : Int) := of_decide_eq_true (by first | (with_reducible assumption) | assumption)
                          obtain ⟨ad106, e106, hx106_0, hx106_1, hx106_2, hx106_3⟩ := at_T36 HR0.out ((rd_T36 l0 a1).f0) p106 q106
                          obtain rfl : ad104 = ad106 := (by injection e106)
                          replace p106 := eq_true p106
                          replace q106 := eq_true q106
                          have p111 : 0 ≤ (((rd_T36 l0 a1).f0) : Int) := of_decide_eq_true (by first | (with_reducible assumption) | assumption)
                          have q111 : ((rd_T36 l0 a1).f0) < (l0.length : Int) := of_decide_eq_true (by first | (with_reducible assumption) | assumption)
                          obtain ⟨ad111, e111, hx111_0, hx111_1, hx111_2, hx111_3⟩ := at_T36 HR0.out ((rd_T36 l0 a1).f0) p111 q111
                          obtain rfl : ad104 = ad111 := (by injection e111)
                          replace p111 := eq_true p111
                          replace q111 := eq_true q111
                          go_enter Tryd.func42, Tryd.ntmps42
                          go_wp2_with (first | (go_at_call 56; (with_reducible refine (watchfireref24_in.calls k _ _ l0 (wrap64 (a1 - 1)) ((rd_T36 l0 a1).f0) true _ ?side1 ?side2 A18.out).mono ?_); (case side1 => repeat (first | exact HR0.out | (with_reducible refine Kd.C_alloc ?_ _) | (with_reducible refine Kd.C_drewN ?_ _) | (with_reducible refine Kd.C_drew ?_))); (case side2 => exact HC0.out); rintro e w' ⟨rfl, ⟨nd, rfl⟩⟩) | (go_at_call 57; (with_reducible refine (watchfireref24_deep.calls k _ _ l0 a1 t113 _ ?side1 ?side2 A20.out).mono ?_); (case side1 => repeat (first | exact HR0.out | (with_reducible refine Kd.C_alloc ?_ _) | (with_reducible refine Kd.C_drewN ?_ _) | (with_reducible refine Kd.C_drew ?_))); (case side2 => exact HC0.out); rintro e w' ⟨rfl, ⟨nd, rfl⟩⟩; have p114 : 0 ≤ (a1 : Int) := of_decide_eq_true (by first | (with_reducible assumption) | assumption); have q114 : a1 < (l0.length : Int) := of_decide_eq_true (by first | (with_reducible assumption) | assumption); obtain ⟨ad114, e114, hx114_0, hx114_1, hx114_2, hx114_3⟩ := at_T36 HR0.out a1 p114 q114; obtain rfl : ad104 = ad114 := (by injection e114); replace p114 := eq_true p114; replace q114 := eq_true q114; have p115 : 0 ≤ (((rd_T36 l0 a1).f0) : Int) := of_decide_eq_true (by first | (with_reducible assumption) | assumption); have q115 : ((rd_T36 l0 a1).f0) < (l0.length : Int) := of_decide_eq_true (by first | (with_reducible assumption) | assumption); obtain ⟨ad115, e115, hx115_0, hx115_1, hx115_2, hx115_3⟩ := at_T36 HR0.out ((rd_T36 l0 a1).f0) p115 q115; obtain rfl : ad104 = ad115 := (by injection e115); replace p115 := eq_true p115; replace q115 := eq_true q115))
                          go_ret
                          exact ⟨by first | rfl | (simp; done) | (simp [*]; done), by repeat (first | exact Drawn0.refl _ | apply Drawn0.step)⟩
                    · replace c19 := Bool.eq_false_iff.mpr c19
                      subst c19
                      have H1 : (some false) = some r := by rw [if_neg (show ¬ (false = true) by decide)] at H; exact H
                      clear H
                      have H := H1
                      clear H1
                      obtain rfl := Option.some.inj H
                      have p104 : 0 ≤ (a1 : Int) := of_decide_eq_true (by first | (with_reducible assumption) | assumption)
                      have q104 : a1 < (l0.length : Int) := of_decide_eq_true (by first | (with_reducible assumption) | assumption)
                      obtain ⟨ad104, e104, hx104_0, hx104_1, hx104_2, hx104_3⟩ := at_T36 HR0.out a1 p104 q104
                      cases e104
                      replace p104 := eq_true p104
                      replace q104 := eq_true q104
                      have p106 : 0 ≤ (((rd_T36 l0 a1).f0) : Int) := of_decide_eq_true (by first | (with_reducible assumption) | assumption)
                      have q106 : ((rd_T36 l0 a1).f0) < (l0.length : Int) := of_decide_eq_true (by first | (with_reducible assumption) | assumption)
                      obtain ⟨ad106, e106, hx106_0, hx106_1, hx106_2, hx106_3⟩ := at_T36 HR0.out ((rd_T36 l0 a1).f0) p106 q106
                      obtain rfl : ad104 = ad106 := (by injection e106)
                      replace p106 := eq_true p106
                      replace q106 := eq_true q106
                      have p111 : 0 ≤ (((rd_T36 l0 a1).f0) : Int) := of_decide_eq_true (by first | (with_reducible assumption) | assumption)
                      have q111 : ((rd_T36 l0 a1).f0) < (l0.length : Int) := of_decide_eq_true (by first | (with_reducible assumption) | assumption)
                      obtain ⟨ad111, e111, hx111_0, hx111_1, hx111_2, hx111_3⟩ := at_T36 HR0.out ((rd_T36 l0 a1).f0) p111 q111
                      obtain rfl : ad104 = ad111 := (by injection e111)
                      replace p111 := eq_true p111
                      replace q111 := eq_true q111
                      go_enter Tryd.func42, Tryd.ntmps42
                      go_wp2_with (first | (go_at_call 56; (with_reducible refine (watchfireref24_in.calls k _ _ l0 (wrap64 (a1 - 1)) ((rd_T36 l0 a1).f0) false _ ?side1 ?side2 A18.out).mono ?_); (case side1 => repeat (first | exact HR0.out | (with_reducible refine Kd.C_alloc ?_ _) | (with_reducible refine Kd.C_drewN ?_ _) | (with_reducible refine Kd.C_drew ?_))); (case side2 => exact HC0.out); rintro e w' ⟨rfl, ⟨nd, rfl⟩⟩))
                      go_ret
                      exact ⟨by first | rfl | (simp; done) | (simp [*]; done), by repeat (first | exact Drawn0.refl _ | apply Drawn0.step)⟩
                  · rw [if_neg c17] at H
                    have c17b0 : (((rd_T36 l0 ((rd_T36 l0 a1).f0)).f1) == 6) = false := beq_eq_false_iff_ne.mpr c17
                    have c17b1 : (((rd_T36 l0 ((rd_T36 l0 a1).f0)).f1) != 6) = true := bne_iff_ne.mpr c17
                    obtain rfl := Option.some.inj H
                    have p104 : 0 ≤ (a1 : Int) := of_decide_eq_true (by first | (with_reducible assumption) | assumption)
                    have q104 : a1 < (l0.length : Int) := of_decide_eq_true (by first | (with_reducible assumption) | assumption)
                    obtain ⟨ad104, e104, hx104_0, hx104_1, hx104_2, hx104_3⟩ := at_T36 HR0.out a1 p104 q104
                    cases e104
                    replace p104 := eq_true p104
                    replace q104 := eq_true q104
                    have p106 : 0 ≤ (((rd_T36 l0 a1).f0) : Int) := of_decide_eq_true (by first | (with_reducible assumption) | assumption)
                    have q106 : ((rd_T36 l0 a1).f0) < (l0.length : Int) := of_decide_eq_true (by first | (with_reducible assumption) | assumption)
                    obtain ⟨ad106, e106, hx106_0, hx106_1, hx106_2, hx106_3⟩ := at_T36 HR0.out ((rd_T36 l0 a1).f0) p106 q106
                    obtain rfl : ad104 = ad106 := (by injection e106)
                    replace p106 := eq_true p106
                    replace q106 := eq_true q106
                    have p111 : 0 ≤ (((rd_T36 l0 a1).f0) : Int) := of_decide_eq_true (by first | (with_reducible assumption) | assumption)
                    have q111 : ((rd_T36 l0 a1).f0) < (l0.length : Int) := of_decide_eq_true (by first | (with_reducible assumption) | assumption)
                    obtain ⟨ad111, e111, hx111_0, hx111_1, hx111_2, hx111_3⟩ := at_T36 HR0.out ((rd_T36 l0 a1).f0) p111 q111
                    obtain rfl : ad104 = ad111 := (by injection e111)
                    replace p111 := eq_true p111
                    replace q111 := eq_true q111
                    go_enter Tryd.func42, Tryd.ntmps42
                    go_wp2
                    go_ret
                    exact ⟨by first | rfl | (simp; done) | (simp [*]; done), by repeat (first | exact Drawn0.refl _ | apply Drawn0.step)⟩
              · rw [if_neg c10] at H
                exact absurd H (by simp)
            · rw [if_neg c9] at H
              exact absurd H (by simp)
    · rw [if_neg c4] at H
      exact absurd H (by simp)
  · rw [if_neg c3] at H
    exact absurd H (by simp)

end Go.Proofs.YtbjidmijbphhgaaDoor.PPut
