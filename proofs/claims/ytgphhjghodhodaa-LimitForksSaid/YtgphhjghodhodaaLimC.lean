/- The walks of limit's greater functions: Next, Len, Denied, Forget. -/
import Derived.Test.YtgphhjghodhodaaLimB
import Derived.Deep.QuietTactic
import Derived.BigQuiet
namespace Go.Proofs.Ytgphhjghodhodaa
open Go.RowKit Go.Maps Go.WideMaps Go.Proofs.YtgphhjghodhodaaMp
set_option linter.unusedVariables false

theorem belowN {B : Nat} {w W : World} (h : Below B w W) (n : Nat) : Below B w (W.drewN n) := ⟨h.os, h.tape, h.output, h.size, h.block⟩

theorem next_bad (p : Nat) (s : ByteArray) (t : Int) (h : ¬ (0 ≤ t ∧ t ≤ 1099511627776)) (w : World) :
    Calls Try.prog 16 #[.pointer (some ⟨p, 0, none⟩), .string s, .int .i64 t] w fun e w' => e = .returned (.int .i64 0) ∧ w = w' := by
  have HH := Lib.hid h
  clear h
  go_enter Try.func16, Try.ntmps16
  go_wp2_with (first | (go_at_call 20; refine (may_not t _ HH.out).mono ?_; rintro e w' ⟨rfl, rfl⟩) | fail)
  go_ret
  exact ⟨rfl, rfl⟩

def nextM (r : Int) (x : Bk) (t : Int) : Int := if 1000 ≤ x.1 then 0 else x.2 - t + (1000 - x.1 + r - 1) / r

theorem next_any {w : World} {p m : Nat} {r b d : Int} {B : List (Key × Bk)} (L : Lim w p m r b d B) (s : ByteArray) (hs : s.size ≤ maxLen) (t : Int) (ht0 : 0 ≤ t) (ht : t ≤ 1099511627776) (x : Bk) (is : Bool) (hx : bkOf r b B s.data.toList t = (x, is)) :
    Calls Try.prog 16 #[.pointer (some ⟨p, 0, none⟩), .string s, .int .i64 t] w fun e w' => e = .returned (.int .i64 (nextM r x t)) ∧ Below w.heap.size w w' := by
  obtain ⟨hi0, hi1, hi2, hi3⟩ := bkOf_inv L _ t ht0 ht x is hx
  have hb := L.b1
  have hr0 := L.r0
  have hr1 := L.r1
  have hlt := L.lt
  have HX := Lib.hid hx
  have HL := Lib.hid L
  have c0 := L.c0
  clear hx L
  by_cases hc : 1000 ≤ x.1
  · have hfin : nextM r x t = 0 := by unfold nextM; rw [if_pos hc]
    have HF := Lib.hid hfin
    clear hfin
    go_enter Try.func16, Try.ntmps16
    go_wp2_with (first | (go_at_call 20; refine (may_yes t _ ht0 ht).mono ?_; rintro e w' ⟨rfl, rfl⟩) | fail)
    refine (get_any HL.out s hs t ht x is HX.out).mono ?_
    rintro e w1 ⟨rfl, hb1⟩
    have HB := Lib.hid hb1
    clear hb1
    go_wp2
    go_ret
    exact ⟨by rw [HF.out]; rfl, HB.out.alloc HB.out.size _⟩
  · have hfin : nextM r x t = x.2 - t + (1000 - x.1 + r - 1) / r := by unfold nextM; rw [if_neg hc]
    have HF := Lib.hid hfin
    have hq0 : 0 ≤ (1000 - x.1 + r - 1) / r := Int.ediv_nonneg (by omega) (by omega)
    have hq1 : (1000 - x.1 + r - 1) / r ≤ 1000 - x.1 + r - 1 := Int.ediv_le_self _ (by omega)
    clear hfin
    go_enter Try.func16, Try.ntmps16
    go_wp2_with (first | (go_at_call 20; refine (may_yes t _ ht0 ht).mono ?_; rintro e w' ⟨rfl, rfl⟩) | fail)
    refine (get_any HL.out s hs t ht x is HX.out).mono ?_
    rintro e w1 ⟨rfl, hb1⟩
    have HB := Lib.hid hb1
    have k0 : w1.cell? ⟨p, 0, none⟩ = some (.int .i64 r) := by rw [(bcell hb1).1 _ _ hlt]; exact c0
    have hlt1 : p < w1.heap.size := Nat.lt_of_lt_of_le hlt hb1.size
    clear hb1
    go_wp2
    have e1 : IntKind.i64.wrap (x.2 - t) = x.2 - t := IntWalk.i64_in _ (by omega)
    have e2 : IntKind.i64.wrap (1000 - x.1 + r) = 1000 - x.1 + r := IntWalk.i64_in _ (by omega)
    have e3 : IntKind.i64.wrap (1000 - x.1 + r - 1) = 1000 - x.1 + r - 1 := IntWalk.i64_in _ (by omega)
    have e4 : Int.tdiv (1000 - x.1 + r - 1) r = (1000 - x.1 + r - 1) / r := Int.tdiv_eq_ediv_of_nonneg (by omega)
    have e5 : IntKind.i64.wrap ((1000 - x.1 + r - 1) / r) = (1000 - x.1 + r - 1) / r := IntWalk.i64_in _ (by omega)
    have e6 : IntKind.i64.wrap (x.2 - t + (1000 - x.1 + r - 1) / r) = x.2 - t + (1000 - x.1 + r - 1) / r := IntWalk.i64_in _ (by omega)
    have hr : (r == 0) = false := by simp; omega
    go_quiet (fail)
    go_wp2
    go_ret
    exact ⟨by rw [HF.out]; rfl, belowN (HB.out.alloc HB.out.size _) _⟩

theorem len_any {w : World} {p m : Nat} {r b d : Int} {B : List (Key × Bk)} (L : Lim w p m r b d B) :
    Calls Try.prog 18 #[.pointer (some ⟨p, 0, none⟩)] w fun e w' => e = .returned (.int .i64 (B.length : Int)) ∧ w = w' := by
  have c2 := L.c2
  obtain ⟨D, ho, hr⟩ := L.own
  have HS := Lib.hid hr.size
  have HO := Lib.hid ho
  clear L ho hr
  go_enter Try.func18, Try.ntmps18
  go_wp2_with (first | (at_len; refine wpList_len_own _ rfl _ 57 rfl 9 62 Try.underlying57 bkElem m B.length D rfl HO.out ?_) | fail)
  go_ret
  exact ⟨by rw [← HS.out]; rfl, rfl⟩

theorem denied_any {w : World} {p m : Nat} {r b d : Int} {B : List (Key × Bk)} (L : Lim w p m r b d B) :
    Calls Try.prog 19 #[.pointer (some ⟨p, 0, none⟩)] w fun e w' => e = .returned (.int .i64 d) ∧ w = w' := by
  have c3 := L.c3
  clear L
  go_enter Try.func19, Try.ntmps19
  go_wp2
  go_ret
  exact ⟨rfl, rfl⟩

end Go.Proofs.Ytgphhjghodhodaa
