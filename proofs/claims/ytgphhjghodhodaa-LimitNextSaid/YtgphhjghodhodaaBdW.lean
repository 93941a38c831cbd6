/- LimitBound: the walk. -/
import Derived.Test.YtgphhjghodhodaaAct
import Derived.Test.YtgphhjghodhodaaApW
import Derived.Test.YtgphhjghodhodaaBdP
namespace Go.Proofs.Ytgphhjghodhodaa
open Go.RowKit Go.Maps Go.WideMaps Go.Proofs.YtgphhjghodhodaaMp Go.Proofs.YtgphhjghodhodaaW.PrintWords
set_option linter.unusedVariables false

theorem at_num {k : IntKind} {w : World} {A : Option Addr} {xs : List Int} (h : Kd.C (Kd.int k) w A xs.length xs) (i : Nat) (hi : i < xs.length) : ∃ ad, A = some ad ∧ w.cell? (ad.add i) = some (.int k (xs.getD i 0)) := by
  obtain ⟨ad, c, e, _, hK, hc⟩ := Kd.C_get h 0 (i : Int) (by omega) (by omega)
  have hK' : c = [.int k (xs.getD (i : Int).toNat 0)] := hK
  subst hK'
  have := hc 0 _ rfl
  refine ⟨ad, e, ?_⟩
  simpa [Kd.int, Kd.scalar] using this

theorem getD_mem (xs : List Int) (i : Nat) (h : i < xs.length) : xs.getD i 0 ∈ xs := by
  rw [List.getD_eq_getElem?_getD, List.getElem?_eq_getElem h]
  exact List.getElem_mem h

/-- Where the outer loop stands: n times were seen. -/
structure BdRel (W wr : World) (p m : Nat) (r b : Int) (n : Int) (now allowed : Int) : Prop where
  out : ∃ (d : Int) (o : Option Bk), 0 ≤ d ∧ d ≤ 60 * n ∧ Lim wr p m r b d (oneB o) ∧ oldB o now ∧ 0 ≤ now ∧ now ≤ 255 * n ∧ 0 ≤ allowed ∧ 1000 * allowed + hasAt r b o now ≤ 1000 * b + r * now ∧ Below W.heap.size W wr

/-- Where the inner one stands: the key had v at the time, j tries are done. -/
structure BiRel (W wr : World) (p m : Nat) (r b : Int) (v : Int) (d0 : Int) (now : Int) (j : Int) : Prop where
  out : ∃ (d : Int) (o : Option Bk), 0 ≤ d ∧ d ≤ d0 + j ∧ Lim wr p m r b d (oneB o) ∧ oldB o now ∧ hasAt r b o now = v - 1000 * min j (v / 1000) ∧ Below W.heap.size W wr

theorem rule_cells (W : World) (r b : Int) : (W.alloc (.cells #[.int .i64 r, .int .i64 b] 25)).cell? ⟨W.heap.size, 0, none⟩ = some (.int .i64 r) ∧ (W.alloc (.cells #[.int .i64 r, .int .i64 b] 25)).cell? ⟨W.heap.size, 1, none⟩ = some (.int .i64 b) := by
  constructor <;> go_simp

theorem bound_main (a0 a1 : Int) (A : Option Addr) (xs : List Int) (cap : Nat) (W : World) (h0 : 0 ≤ a0 ∧ a0 ≤ 65535) (h1 : 0 ≤ a1 ∧ a1 ≤ 65535) (hC : Kd.C (Kd.int .u8) W A xs.length xs) (hok : ∀ x ∈ xs, 0 ≤ x ∧ x ≤ 255) (hm : xs.length ≤ maxLen) :
    Calls Try.prog 4 #[.int .u16 a0, .int .u16 a1, .slice A xs.length cap] W fun e w' => e = .returned (.bool true) ∧ Below W.heap.size W w' := by
  have HC := Lib.hid hC
  have HK := Lib.hid hok
  clear hC hok
  obtain ⟨h00, h01⟩ := h0
  obtain ⟨h10, h11⟩ := h1
  unfold maxLen at hm
  go_enter Try.func4, Try.ntmps4
  go_wp2_with fail
  obtain ⟨r, hr⟩ : ∃ r, 1 + a0 % 1000 = r := ⟨_, rfl⟩
  obtain ⟨b, hb⟩ : ∃ b, 1 + a1 % 50 = b := ⟨_, rfl⟩
  have hr0 : 1 ≤ r := by omega
  have hr1 : r ≤ 1000 := by omega
  have hb0 : 1 ≤ b := by omega
  have hb1 : b ≤ 50 := by omega
  rw [hr, hb]
  clear hr hb
  refine (new_any r b _ hr0 (by omega) hb0 (by omega)).mono ?_
  rintro e w1 ⟨p, m, rfl, L1, hbw, hpa, hma⟩
  obtain ⟨W1, hW1⟩ : ∃ w, W.alloc (.cells #[.int .i64 r, .int .i64 b] 25) = w := ⟨_, rfl⟩
  rw [hW1] at hbw hpa hma
  have hWW : Below W.heap.size W W1 := by rw [← hW1]; exact (Below.refl _ _).alloc (Nat.le_refl _) _
  have hsz : W.heap.size < W1.heap.size := by rw [← hW1]; simp
  have z0 : W1.cell? ⟨W.heap.size, 0, none⟩ = some (.int .i64 r) := by rw [← hW1]; exact (rule_cells W r b).1
  have z1 : W1.cell? ⟨W.heap.size, 1, none⟩ = some (.int .i64 b) := by rw [← hW1]; exact (rule_cells W r b).2
  have HZ0 := Lib.hid z0
  have HZ1 := Lib.hid z1
  have HL1 := Lib.hid L1
  have HB1 := Lib.hid hbw
  have HWW := Lib.hid hWW
  have k0 : w1.cell? ⟨W.heap.size, 0, none⟩ = some (.int .i64 r) := by rw [(bcell hbw).1 _ _ hsz]; exact z0
  have k1 : w1.cell? ⟨W.heap.size, 1, none⟩ = some (.int .i64 b) := by rw [(bcell hbw).1 _ _ hsz]; exact z1
  clear L1 hbw hW1 hWW z0 z1
  go_wp2_with fail
  go_loopw [10, 11, 12] (fun v10 v11 v12 wr => ∃ (i : Nat) (now al : Int), i ≤ xs.length ∧ i ≤ 40 ∧ v12 = .int .i64 i ∧ v10 = .int .i64 now ∧ v11 = .int .i64 al ∧ BdRel W1 wr p m r b i now al) (fun _ _ v12 _ => xs.length - (intOf v12).toNat)
  case atStart => exact ⟨0, 0, 0, by omega, by omega, rfl, rfl, rfl, ⟨0, none, by omega, by omega, HL1.out, (fun c h => by cases h), by omega, by omega, by omega, by rw [hasAt_none]; omega, HB1.out⟩⟩
  case round =>
    obtain ⟨i, now, al, hi, hi40, rfl, rfl, rfl, hR⟩ := hrel
    have HR := Lib.hid hR
    clear hR k0 k1
    by_cases hlt : i < xs.length ∧ i < 40
    · obtain ⟨hlt, h40⟩ := hlt
      obtain ⟨d, o, hd0, hd1, L, hold, hn0, hn1, hal0, hpot, hB⟩ := HR.out.out
      have hva := hasAt_nonneg (r := r) (b := b) (t := now) hb0 hr0 (o := o) (fun c hc => by subst hc; exact (L.inv ([107], c) (by simp [oneB])).1)
      have hq0 : 0 ≤ r * now := Int.mul_nonneg (by omega) hn0
      have hq1 : r * now ≤ 1000 * 10200 := Int.mul_le_mul hr1 (by omega) hn0 (by omega)
      obtain ⟨ad, rfl, q0⟩ := at_num (Kd.C_below HC.out (HWW.out.trans (hB.mono (by omega)))) i hlt
      have hx := HK.out _ (getD_mem xs i hlt)
      obtain ⟨x, hxn⟩ : ∃ x, xs.getD i 0 = x := ⟨_, rfl⟩
      rw [hxn] at q0 hx
      obtain ⟨hx0, hx1⟩ := hx
      obtain ⟨v, hv⟩ : ∃ v, hasAt r b o (now + x) = v := ⟨_, rfl⟩
      have hold' : oldB o (now + x) := fun c hc => by have := hold c hc; omega
      have hvl : v ≤ 1000 * b := by rw [← hv]; exact hasAt_le (fun c hc => by subst hc; exact (L.inv ([107], c) (by simp [oneB])).2.1)
      have hv0 : 0 ≤ v := by rw [← hv]; exact hasAt_nonneg hb0 hr0 (fun c hc => by subst hc; exact (L.inv ([107], c) (by simp [oneB])).1)
      have hpot' : 1000 * al + v ≤ 1000 * b + r * (now + x) := by
        have h1 := hasAt_later (b := b) hr0 hold (t' := now + x) (by omega)
        rw [hv] at h1
        have h2 : r * (now + x) = r * now + r * (now + x - now) := by rw [← Int.mul_add]; congr 1; omega
        omega
      obtain ⟨is, his⟩ : ∃ is, bkOf r b (oneB o) [107] (now + x) = ((v, now + x), is) := ⟨(bkOf r b (oneB o) [107] (now + x)).2, Prod.ext (by rw [bkOf_oneB hold', hv]) rfl⟩
      have HIS := Lib.hid his
      have HV := Lib.hid hv
      have HL := Lib.hid L
      have HB := Lib.hid hB
      have HO := Lib.hid hold'
      clear hxn hv his L hB hold hold' hpot
      go_wp2_with fail
      refine (left_any HL.out ⟨#[107]⟩ (by decide) (now + x) (by omega) (by omega) (v, now + x) is HIS.out).mono ?_
      rintro e w2 ⟨rfl, hb2⟩
      have HB2 := Lib.hid (HB.out.trans (hb2.mono HB.out.size))
      have HL2 := Lib.hid (HL.out.below hb2)
      clear hb2
      go_wp2_with fail
      have hq2 : 0 ≤ r * (now + x) := Int.mul_nonneg (by omega) (by omega)
      have hq3 : r * (now + x) ≤ 1000 * 10455 := Int.mul_le_mul hr1 (by omega) (by omega) (by omega)
      go_loopw [11, 14] (fun v11 v14 wr2 => ∃ j : Nat, j ≤ 60 ∧ v14 = .int .i64 j ∧ v11 = .int .i64 (al + min (j : Int) (v / 1000)) ∧ BiRel W1 wr2 p m r b v d (now + x) j) (fun _ v14 _ => 60 - (intOf v14).toNat)
      case atStart => exact ⟨0, by omega, rfl, by rw [show min ((0 : Nat) : Int) (v / 1000) = 0 from by omega, Int.add_zero], ⟨d, o, hd0, by omega, HL2.out, HO.out, by rw [HV.out]; omega, HB2.out⟩⟩
      case round =>
        obtain ⟨j, hj, rfl, rfl, hRi⟩ := hrel
        have HRi := Lib.hid hRi
        clear hRi
        by_cases hj60 : j < 60
        · obtain ⟨di, oi, hdi0, hdi1, Li, holdi, hhas, hBi⟩ := HRi.out.out
          have hA := allow_one (r := r) (d := di) hb0 (show 0 ≤ now + x by omega) (show now + x ≤ 1099511627776 by omega) holdi
          rw [hhas] at hA
          have HLi := Lib.hid Li
          have HBi := Lib.hid hBi
          by_cases hjl : (j : Int) < v / 1000
          · have hmin : min (j : Int) (v / 1000) = j := by omega
            rw [hmin] at hA
            rw [hmin]
            have hge : 1000 ≤ v - 1000 * (j : Int) := by omega
            simp only [hge, decide_true, if_true] at hA
            have HA := Lib.hid hA
            clear hA hhas holdi Li hBi hmin
            go_wp2_with fail
            refine (allow_any HLi.out hdi0 (by omega) ⟨#[107]⟩ (by decide) _ true di _ HA.out).mono ?_
            rintro e w3 ⟨rfl, L3, t3⟩
            have HL3 := Lib.hid L3
            have HB3 := Lib.hid (HBi.out.trans (t3.to_below HBi.out.size (fun k h => by omega)))
            clear L3 t3
            go_wp2
            go_roundw
            case rel => exact ⟨j + 1, by omega, by go_num, by rw [show min (((j + 1 : Nat)) : Int) (v / 1000) = j + 1 from by omega]; go_num, ⟨di, _, hdi0, by omega, HL3.out, (fun c hc => by cases hc; simp only; omega), by rw [hasAt_same]; omega, HB3.out⟩⟩
            case measure => simp [intOf]; omega
          · have hmin : min (j : Int) (v / 1000) = v / 1000 := by omega
            rw [hmin] at hA
            rw [hmin]
            have hge : ¬ 1000 ≤ v - 1000 * (v / 1000) := by omega
            simp only [hge, decide_false, if_false] at hA
            have HA := Lib.hid hA
            clear hA hhas holdi Li hBi hmin
            go_wp2_with fail
            refine (allow_any HLi.out hdi0 (by omega) ⟨#[107]⟩ (by decide) _ false (di + 1) _ HA.out).mono ?_
            rintro e w3 ⟨rfl, L3, t3⟩
            have HL3 := Lib.hid L3
            have HB3 := Lib.hid (HBi.out.trans (t3.to_below HBi.out.size (fun k h => by omega)))
            clear L3 t3
            go_wp2
            go_roundw
            case rel => exact ⟨j + 1, by omega, by go_num, by rw [show min (((j + 1 : Nat)) : Int) (v / 1000) = v / 1000 from by omega], ⟨di + 1, _, by omega, by omega, HL3.out, (fun c hc => by cases hc; simp only; omega), by rw [hasAt_same]; omega, HB3.out⟩⟩
            case measure => simp [intOf]; omega
        · obtain ⟨di, oi, hdi0, hdi1, Li, holdi, hhas, hBi⟩ := HRi.out.out
          have hj' : j = 60 := by omega
          have hmin : min (j : Int) (v / 1000) = v / 1000 := by omega
          rw [hmin] at hhas
          rw [hmin]
          have k0 := (bcell hBi).1 _ 0 hsz
          rw [HZ0.out] at k0
          have k1 := (bcell hBi).1 _ 1 hsz
          rw [HZ1.out] at k1
          have HLi := Lib.hid Li
          have HBi := Lib.hid hBi
          have HHS := Lib.hid hhas
          have HOi := Lib.hid holdi
          clear Li hBi hhas holdi hmin
          go_wp2
          go_roundw
          case rel => exact ⟨i + 1, now + x, al + v / 1000, by omega, by omega, by go_num, rfl, rfl, ⟨di, oi, hdi0, by omega, HLi.out, HOi.out, by omega, by omega, by omega, by rw [HHS.out]; omega, HBi.out⟩⟩
          case measure => simp [intOf]; omega
    · obtain ⟨_, _, _, _, _, _, _, _, _, _, hB⟩ := HR.out.out
      have HB := Lib.hid (HWW.out.trans (hB.mono (by omega)))
      clear hB HR
      by_cases h1 : i < xs.length
      · have h2 : ¬ i < 40 := fun h => hlt ⟨h1, h⟩
        clear hlt
        go_wp2_with fail
        refine (awake_any _).mono ?_
        rintro e w5 ⟨rfl, hb5⟩
        have HF := Lib.hid (HB.out.trans (hb5.mono HB.out.size))
        clear hb5
        go_wp2
        go_ret
        exact ⟨rfl, HF.out⟩
      · clear hlt
        go_wp2_with fail
        refine (awake_any _).mono ?_
        rintro e w5 ⟨rfl, hb5⟩
        have HF := Lib.hid (HB.out.trans (hb5.mono HB.out.size))
        clear hb5
        go_wp2
        go_ret
        exact ⟨rfl, HF.out⟩


end Go.Proofs.Ytgphhjghodhodaa
