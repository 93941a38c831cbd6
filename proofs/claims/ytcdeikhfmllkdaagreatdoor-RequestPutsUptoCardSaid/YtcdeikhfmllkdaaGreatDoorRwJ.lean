/- ref32: free, Percent, digit. -/
import Derived.Test.YtcdeikhfmllkdaaGreatDoorRwH
namespace Go.Proofs.YtcdeikhfmllkdaaGreatDoor
open Go.RowKit
set_option linter.unusedVariables false
set_option linter.unusedSimpArgs false
set_option maxHeartbeats 1600000 in
set_option maxRecDepth 100000 in
theorem rfree_any (c : UInt8) (w : World) : Calls Tryz.prog 70 #[.int .u8 c.toNat] w fun e w' => e = .returned (.bool (freeB c)) ∧ w' = w := by
  have hc := c.toNat_lt
  go_enter Tryz.func70, Tryz.ntmps70
  go_wp2_with fail
  all_goals
    go_ret
    refine ⟨ret_bool ?_, rfl⟩
    rw [Bool.eq_iff_iff]
    simp only [freeB, Bool.or_eq_true, Bool.and_eq_true, decide_eq_true_eq, Bool.false_eq_true, true_iff, false_iff, beq_iff_eq, not_or]
    omega
/-- A digit's number. -/
def digN (c : UInt8) : Int := if 0 ≤ hexI c then hexI c else 16
theorem digN_at (c : UInt8) (i : Nat) (hi : i < 16) (h : HEXDs.getD i 0 = c) : digN c = (i : Int) := by
  subst h
  unfold digN
  rw [hexI_dig hi, if_pos (by omega)]
theorem digN_no (c : UInt8) (h : ∀ i, i < 16 → HEXDs.getD i 0 ≠ c) : digN c = 16 := by
  unfold digN
  split
  · rename_i h0
    have h1 := dig_hexI c h0
    have := hexI_hi c
    exact absurd h1 (h _ (by omega))
  · rfl
set_option maxHeartbeats 1600000 in
set_option maxRecDepth 100000 in
theorem digit_any (c : UInt8) (w : World) : Calls Tryz.prog 67 #[.int .u8 c.toNat] w fun e w' => e = .returned (.int .i64 (digN c)) ∧ w' = w := by
  have hc := c.toNat_lt
  go_enter Tryz.func67, Tryz.ntmps67
  go_wp2_with fail
  go_loopw [3] (fun v wr => ∃ i : Nat, v = .int .i64 i ∧ i ≤ 16 ∧ (∀ j, j < i → HEXDs.getD j 0 ≠ c) ∧ wr = w) (fun v _ => 16 - (intOf v).toNat)
  case atStart => exact ⟨0, rfl, by omega, by intro j hj; omega, rfl⟩
  case round =>
    obtain ⟨i, rfl, hi, hno, rfl⟩ := hrel
    by_cases h16 : i < 16
    · have hx : ∀ w1 : World, Sem.run Tryz.prog (Instr.index 9 (.string ⟨#[48, 49, 50, 51, 52, 53, 54, 55, 56, 57, 65, 66, 67, 68, 69, 70]⟩) (.int .i64 (i : Int))) w1 = .ok (.int .u8 ((HEXDs.getD i 0).toNat : Int)) w1 := fun w1 => ix_run (S := ⟨#[48, 49, 50, 51, 52, 53, 54, 55, 56, 57, 65, 66, 67, 68, 69, 70]⟩) (k := i) (c := HEXDs.getD i 0) (show i < (⟨#[48, 49, 50, 51, 52, 53, 54, 55, 56, 57, 65, 66, 67, 68, 69, 70]⟩ : ByteArray).size from h16) (HEX_get i h16 _) w1
      obtain ⟨d, hd⟩ : ∃ d, HEXDs.getD i 0 = d := ⟨_, rfl⟩
      rw [hd] at hx
      have HN := Lib.hid hno
      have HD := Lib.hid hd
      clear hno hd
      by_cases hdc : d = c
      · subst hdc
        have HR := Lib.hid (digN_at d i h16 HD.out)
        have he : (((d.toNat : Nat) : Int) == (d.toNat : Int)) = true := beq_self_eq_true _
        go_wp2_with fail
        go_ret
        exact ⟨by rw [HR.out]; rfl, rfl⟩
      · have he : ((d.toNat : Int) == (c.toNat : Int)) = false := by
          rw [beq_eq_false_iff_ne]; intro h; exact hdc (UInt8.toNat_inj.1 (by omega))
        go_wp2_with fail
        go_roundw
        case measure => simp [intOf]; omega
        case rel => exact ⟨i + 1, by go_num, by omega, fun j hj => by
          by_cases hji : j = i
          · subst hji; rw [HD.out]; exact hdc
          · exact HN.out j (by omega), trivial⟩
    · obtain rfl : i = 16 := by omega
      have HR := Lib.hid (digN_no c hno)
      clear hno
      go_wp2_with fail
      go_ret
      exact ⟨by rw [HR.out]; rfl, rfl⟩
end Go.Proofs.YtcdeikhfmllkdaaGreatDoor
