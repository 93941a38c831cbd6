/- LimitNext: the walk. -/
import Derived.Test.YtgphhjghodhodaaLimH
import Derived.Test.YtgphhjghodhodaaBdW
namespace Go.Proofs.Ytgphhjghodhodaa
open Go.RowKit Go.Maps Go.WideMaps Go.Proofs.YtgphhjghodhodaaMp
set_option linter.unusedVariables false

/-- How many ticks a bucket that has nothing waits. -/
theorem ticks {r : Int} (h0 : 1 ≤ r) (h1 : r ≤ 1000) {n : Int} (hn : n = (999 + r) / r) : 1 ≤ n ∧ n ≤ 1000 ∧ r * (n - 1) < 1000 ∧ 1000 ≤ r * n ∧ 0 ≤ r * (n - 1) ∧ r * n ≤ 2000 := by
  have e : (999 + r) / r = 999 / r + 1 := by
    rw [Int.add_ediv_of_dvd_right ⟨1, by omega⟩, Int.ediv_self (by omega)]
  have h2 : r * (999 / r) ≤ 999 := Int.mul_ediv_self_le (by omega)
  have h3 : 999 < r * (999 / r) + r := Int.lt_mul_ediv_self_add (by omega)
  have h4 : 0 ≤ 999 / r := Int.ediv_nonneg (by omega) (by omega)
  have h5 : 999 / r ≤ 999 := Int.ediv_le_self _ (by omega)
  have h6 : r * n = r * (999 / r) + r := by rw [hn, e, Int.mul_add, Int.mul_one]
  have h7 : n - 1 = 999 / r := by omega
  have h8 : 0 ≤ r * (999 / r) := Int.mul_nonneg (by omega) h4
  rw [h7, h6]
  omega

theorem hasAt_grown {r b : Int} (hr : 1 ≤ r) (hb : 1 ≤ b) {o : Option Bk} {t n : Int} (hold : oldB o t) (hz : hasAt r b o t = 0) (hn : 0 ≤ n) (hrn : 1000 ≤ r * n) : 1000 ≤ hasAt r b o (t + n) := by
  cases o with
  | none => rw [hasAt_none]; omega
  | some c =>
    have hc := hold c rfl
    rw [hasAt_some] at hz ⊢
    unfold bkAt at hz ⊢
    have hn1 : 0 < n := by
      rcases Int.lt_or_le 0 n with h | h
      · exact h
      · exfalso
        have : n = 0 := by omega
        subst this
        omega
    rw [if_neg (by omega)]
    by_cases e : t ≤ c.2
    · rw [if_pos e] at hz
      have : t + n - c.2 = n := by omega
      rw [this]
      simp only; omega
    · rw [if_neg e] at hz
      simp only at hz ⊢
      have e1 : r * (t + n - c.2) = r * (t - c.2) + r * n := by rw [← Int.mul_add]; congr 1; omega
      omega

theorem next_main (a0 a1 a2 : Int) (W : World) (h0 : 0 ≤ a0 ∧ a0 ≤ 65535) (h1 : 0 ≤ a1 ∧ a1 ≤ 65535) (h2 : 0 ≤ a2 ∧ a2 ≤ 4294967295) :
    Calls Try.prog 6 #[.int .u16 a0, .int .u16 a1, .int .u32 a2] W fun e w' => e = .returned (.bool true) ∧ Below W.heap.size W w' := by
  obtain ⟨h00, h01⟩ := h0
  obtain ⟨h10, h11⟩ := h1
  obtain ⟨h20, h21⟩ := h2
  go_enter Try.func6, Try.ntmps6
  go_wp2_with fail
  obtain ⟨r, hr⟩ : ∃ r, 1 + a0 % 1000 = r := ⟨_, rfl⟩
  obtain ⟨b, hb⟩ : ∃ b, 1 + a1 % 50 = b := ⟨_, rfl⟩
  have hr0 : 1 ≤ r := by omega
  have hr1 : r ≤ 1000 := by omega
  have hb0 : 1 ≤ b := by omega
  have hb1 : b ≤ 50 := by omega
  rw [hr, hb]
  clear hr hb
  refine (new_any r b _ hr0 (by omega) hb0 (by omega)).mono ?_
  rintro e w1 ⟨p, m, rfl, L1, hbw, hpa, hma⟩
  obtain ⟨W1, hW1⟩ : ∃ w, W.alloc (.cells #[.int .i64 r, .int .i64 b] 25) = w := ⟨_, rfl⟩
  rw [hW1] at hbw hpa hma
  have hWW : Below W.heap.size W W1 := by rw [← hW1]; exact (Below.refl _ _).alloc (Nat.le_refl _) _
  have hsz : W.heap.size < W1.heap.size := by rw [← hW1]; simp
  have z1 : W1.cell? ⟨W.heap.size, 1, none⟩ = some (.int .i64 b) := by rw [← hW1]; exact (rule_cells W r b).2
  have HZ1 := Lib.hid z1
  have HL1 := Lib.hid L1
  have HB1 := Lib.hid hbw
  have HWW := Lib.hid hWW
  have k1 : w1.cell? ⟨W.heap.size, 1, none⟩ = some (.int .i64 b) := by rw [(bcell hbw).1 _ _ hsz]; exact z1
  clear L1 hbw hW1 hWW z1
  go_wp2_with fail
  obtain ⟨t, ht⟩ : ∃ t, a2 % 1073741824 = t := ⟨_, rfl⟩
  have ht0 : 0 ≤ t := by omega
  have ht1 : t ≤ 1073741824 := by omega
  rw [ht]
  clear ht k1
  go_loopw [11] (fun v11 wr => ∃ i : Nat, (i : Int) ≤ b ∧ v11 = .int .i64 i ∧ ∃ o : Option Bk, Lim wr p m r b 0 (oneB o) ∧ oldB o t ∧ hasAt r b o t = 1000 * b - 1000 * i ∧ Below W1.heap.size W1 wr) (fun v11 _ => 50 - (intOf v11).toNat)
  case atStart => exact ⟨0, by omega, rfl, none, HL1.out, (fun c h => by cases h), by rw [hasAt_none]; omega, HB1.out⟩
  case round =>
    obtain ⟨i, hi, rfl, o, L, hold, hhas, hB⟩ := hrel
    have k1 := (bcell hB).1 _ 1 hsz
    rw [HZ1.out] at k1
    have hA := allow_one (r := r) (d := 0) hb0 ht0 (show t ≤ 1099511627776 by omega) hold
    rw [hhas] at hA
    have HL := Lib.hid L
    have HB := Lib.hid hB
    have HO := Lib.hid hold
    have HH := Lib.hid hhas
    by_cases hib : (i : Int) < b
    · have hge : 1000 ≤ 1000 * b - 1000 * (i : Int) := by omega
      simp only [hge, decide_true, if_true] at hA
      have HA := Lib.hid hA
      clear hA hhas hold L hB
      go_wp2_with fail
      refine (allow_any HL.out (by omega) (by omega) ⟨#[107]⟩ (by decide) _ true 0 _ HA.out).mono ?_
      rintro e w3 ⟨rfl, L3, t3⟩
      have HL3 := Lib.hid L3
      have HB3 := Lib.hid (HB.out.trans (t3.to_below HB.out.size (fun k h => by omega)))
      clear L3 t3
      go_wp2
      go_roundw
      case rel => exact ⟨i + 1, by omega, by go_num, _, HL3.out, (fun c hc => by cases hc; simp only; omega), by rw [hasAt_same]; omega, HB3.out⟩
      case measure => simp [intOf]; omega
    · have hib' : (i : Int) = b := by omega
      have hz : hasAt r b o t = 0 := by rw [hhas]; omega
      obtain ⟨is, his⟩ : ∃ is, bkOf r b (oneB o) [107] t = ((0, t), is) := ⟨(bkOf r b (oneB o) [107] t).2, Prod.ext (by rw [bkOf_oneB hold, hz]) rfl⟩
      have HIS := Lib.hid his
      have HZ := Lib.hid hz
      clear hA hhas hold L hB HH his hz hib'
      go_wp2_with fail
      refine (next_any HL.out ⟨#[107]⟩ (by decide) t ht0 (by omega) (0, t) is HIS.out).mono ?_
      rintro e w4 ⟨rfl, hb4⟩
      obtain ⟨n, hn⟩ : ∃ n, nextM r (0, t) t = n := ⟨_, rfl⟩
      have hn' : n = (999 + r) / r := by
        rw [← hn]
        unfold nextM
        simp only
        rw [if_neg (by omega), show (1000 - 0 + r - 1 : Int) = 999 + r by omega]
        omega
      obtain ⟨hn0, hn1, hn2, hn3, hn4, hn5⟩ := ticks hr0 hr1 hn'
      have HL4 := Lib.hid (HL.out.below hb4)
      have HB4 := Lib.hid (HB.out.trans (hb4.mono HB.out.size))
      rw [hn]
      clear hb4 hn hn'
      go_wp2_with fail
      refine (fork_any HL4.out).mono ?_
      rintro e w5 ⟨p', m', rfl, L5, hb5, hp5, hm5⟩
      have HL5 := Lib.hid L5
      have HL5' := Lib.hid (HL4.out.below hb5)
      have HB5 := Lib.hid (HB4.out.trans (hb5.mono HB4.out.size))
      have hpl := HL4.out.lt
      have hml := HL4.out.ltm
      have hs4 := HB4.out.size
      clear L5 hb5
      go_wp2_with fail
      refine (left_any HL5'.out ⟨#[107]⟩ (by decide) t ht0 (by omega) (0, t) is HIS.out).mono ?_
      rintro e w6 ⟨rfl, hb6⟩
      have HL6 := Lib.hid (HL5.out.below hb6)
      have HL6' := Lib.hid (HL5'.out.below hb6)
      have HB6 := Lib.hid (HB5.out.trans (hb6.mono HB5.out.size))
      clear hb6
      go_wp2_with fail
      have hold1 : oldB o (t + n - 1) := fun c hc => by have := HO.out c hc; omega
      have hold2 : oldB o (t + n) := fun c hc => by have := HO.out c hc; omega
      have hA1 := allow_one (r := r) (d := 0) hb0 (show 0 ≤ t + n - 1 by omega) (show t + n - 1 ≤ 1099511627776 by omega) hold1
      have hA2 := allow_one (r := r) (d := 0) hb0 (show 0 ≤ t + n by omega) (show t + n ≤ 1099511627776 by omega) hold2
      have hl1 : hasAt r b o (t + n - 1) < 1000 := by
        have := hasAt_later (b := b) hr0 HO.out (t' := t + n - 1) (by omega)
        rw [HZ.out, show t + n - 1 - t = n - 1 by omega] at this
        omega
      have hl2 : 1000 ≤ hasAt r b o (t + n) := hasAt_grown hr0 hb0 HO.out HZ.out (by omega) hn3
      have hl1' : ¬ 1000 ≤ hasAt r b o (t + n - 1) := by omega
      simp only [hl1', decide_false, if_false] at hA1
      simp only [hl2, decide_true, if_true] at hA2
      have HA1 := Lib.hid hA1
      have HA2 := Lib.hid hA2
      clear hA1 hA2 hl1 hl2 hl1' hold1 hold2
      refine (allow_any HL6.out (by omega) (by omega) ⟨#[107]⟩ (by decide) _ false 1 _ HA1.out).mono ?_
      rintro e w7 ⟨rfl, L7, t7⟩
      have HL7 := Lib.hid (HL6'.out.kept t7 (by omega) (by omega))
      have HB7 := Lib.hid (HB6.out.trans (t7.to_below HB6.out.size (fun k h => by omega)))
      clear L7 t7
      go_wp2_with fail
      refine (allow_any HL7.out (by omega) (by omega) ⟨#[107]⟩ (by decide) _ true 0 _ HA2.out).mono ?_
      rintro e w8 ⟨rfl, L8, t8⟩
      have HB8 := Lib.hid (HB7.out.trans (t8.to_below HB7.out.size (fun k h => by omega)))
      clear L8 t8
      go_wp2_with fail
      refine (awake_any _).mono ?_
      rintro e w9 ⟨rfl, hb9⟩
      have HF := Lib.hid (HWW.out.trans ((HB8.out.trans (hb9.mono HB8.out.size)).mono (by omega)))
      clear hb9
      go_wp2
      go_ret
      exact ⟨rfl, HF.out⟩
end Go.Proofs.Ytgphhjghodhodaa
