/- request: bytes of a target, Percent. -/
import Derived.Test.YtcdeikhfmllkdaaGreatDoorJe
import Derived.Test.YtcdeikhfmllkdaaGreatDoorRqP
namespace Go.Proofs.YtcdeikhfmllkdaaGreatDoor
open Go.RowKit
set_option linter.unusedVariables false
set_option linter.unusedSimpArgs false

theorem beq_no {c : UInt8} {k : Nat} (hk : k < 256) (h : ¬ c = UInt8.ofNat k) : ((c.toNat : Int) == (k : Int)) = false := by
  rw [beq_eq_false_iff_ne]
  intro e
  refine h (UInt8.toNat_inj.1 ?_)
  have : c.toNat = k := by omega
  rw [this, UInt8.toNat_ofNat']
  omega
theorem str_tl (a : Bytes) : (str a).toList = a := by rw [ByteArray.toList_eq, str_toList]
theorem low_bits (c : UInt8) : (97 ≤ bits BinOp.or IntKind.u8 (c.toNat : Int) 32 ∧ bits BinOp.or IntKind.u8 (c.toNat : Int) 32 ≤ 122 ∧ 65 ≤ c.toNat) ↔ ((97 ≤ c.toNat ∧ c.toNat ≤ 122) ∨ (65 ≤ c.toNat ∧ c.toNat ≤ 90)) :=
  u8_every (fun c => (97 ≤ bits BinOp.or IntKind.u8 (c.toNat : Int) 32 ∧ bits BinOp.or IntKind.u8 (c.toNat : Int) 32 ≤ 122 ∧ 65 ≤ c.toNat) ↔ ((97 ≤ c.toNat ∧ c.toNat ≤ 122) ∨ (65 ≤ c.toNat ∧ c.toNat ≤ 90))) (by decide +kernel) c
theorem signs_idx (c : UInt8) : 0 ≤ Lib.indexByte [45, 46, 95, 126] c ↔ (c.toNat = 45 ∨ c.toNat = 46 ∨ c.toNat = 95 ∨ c.toNat = 126) :=
  u8_every (fun c => 0 ≤ Lib.indexByte [45, 46, 95, 126] c ↔ (c.toNat = 45 ∨ c.toNat = 46 ∨ c.toNat = 95 ∨ c.toNat = 126)) (by decide +kernel) c
theorem idx4_any (c : UInt8) (w : World) : Calls Tryz.prog 66 #[.string ⟨#[45, 46, 95, 126]⟩, .int .u8 c.toNat] w fun e w' => e = .returned (.int .i64 (Lib.indexByte [45, 46, 95, 126] c)) ∧ w' = w := by
  have := Any.strings_IndexByte Tryz.laysIndexByte ⟨#[45, 46, 95, 126]⟩ (c.toNat : Int) w
  rw [Int.toNat_natCast, show c.toNat.toUInt8 = c from UInt8.ofNat_toNat] at this
  exact this
theorem hexi_any (c : UInt8) (w : World) : Calls Tryz.prog 66 #[.string ⟨#[48, 49, 50, 51, 52, 53, 54, 55, 56, 57, 65, 66, 67, 68, 69, 70]⟩, .int .u8 c.toNat] w fun e w' => e = .returned (.int .i64 (hexI c)) ∧ w' = w := by
  have := Any.strings_IndexByte Tryz.laysIndexByte ⟨#[48, 49, 50, 51, 52, 53, 54, 55, 56, 57, 65, 66, 67, 68, 69, 70]⟩ (c.toNat : Int) w
  rw [Int.toNat_natCast, show c.toNat.toUInt8 = c from UInt8.ofNat_toNat] at this
  exact this
set_option maxHeartbeats 1600000 in
set_option maxRecDepth 100000 in
theorem free_any (c : UInt8) (w : World) : Calls Tryz.prog 65 #[.int .u8 c.toNat] w fun e w' => e = .returned (.bool (freeB c)) ∧ w' = w := by
  have hc := c.toNat_lt
  have HI := Lib.hid (idx4_any c w)
  obtain ⟨ix, hix⟩ : ∃ ix, Lib.indexByte [45, 46, 95, 126] c = ix := ⟨_, rfl⟩
  have hs := signs_idx c
  rw [hix] at HI hs
  have HS := Lib.hid hs
  have HB := Lib.hid (low_bits c)
  clear hix hs
  go_enter Tryz.func65, Tryz.ntmps65
  go_wp2_with (first | (go_at_call 66; (refine HI.out.mono ?_); rintro e w2 ⟨rfl, rfl⟩))
  all_goals
    have h1 := HS.out
    have h2 := HB.out
    go_ret
    refine ⟨ret_bool ?_, rfl⟩
    rw [Bool.eq_iff_iff]
    simp only [freeB, Bool.or_eq_true, Bool.and_eq_true, decide_eq_true_eq, Bool.false_eq_true, true_iff, false_iff, beq_iff_eq, not_or]
    omega
end Go.Proofs.YtcdeikhfmllkdaaGreatDoor
