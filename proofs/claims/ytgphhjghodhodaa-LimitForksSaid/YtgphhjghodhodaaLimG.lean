/- The walks of New and of the law's closed case. -/
import Derived.Test.YtgphhjghodhodaaLimF
namespace Go.Proofs.Ytgphhjghodhodaa
open Go.RowKit Go.Maps Go.WideMaps Go.Proofs.YtgphhjghodhodaaMp
set_option linter.unusedVariables false

theorem lim_new (w : World) (r b : Int) (hr0 : 1 ≤ r) (hr1 : r ≤ 1000000) (hb0 : 1 ≤ b) (hb1 : b ≤ 1000000) (o : Obj) :
    Lim (((w.alloc o).alloc (.map #[] 0)).alloc (.cells #[.int .i64 r, .int .i64 b, .map (some (w.heap.size + 1)), .int .i64 0] 59)) (w.heap.size + 2) (w.heap.size + 1) r b 0 [] := by
  refine ⟨?_, by omega, ?_, hr0, hr1, hb0, hb1, by simp, by simp⟩
  · have h := heap_alloc_new ((w.alloc o).alloc (.map #[] 0)) (.cells #[.int .i64 r, .int .i64 b, .map (some (w.heap.size + 1)), .int .i64 0] 59)
    have e : ((w.alloc o).alloc (.map #[] 0)).heap.size = w.heap.size + 2 := by simp
    rw [e] at h
    exact h
  · have h := World.ownsMap_made (H := Unit) (w.alloc o) Try.prog 9 bkElem
    have e : (w.alloc o).heap.size = w.heap.size + 1 := by simp
    rw [e] at h
    exact ⟨.map [], h.alloc _, MRep.empty⟩

theorem new_ok (r b : Int) (w : World) (hr0 : 1 ≤ r) (hr1 : r ≤ 1000000) (hb0 : 1 ≤ b) (hb1 : b ≤ 1000000) :
    Calls Try.prog 9 #[.agg #[.int .i64 r, .int .i64 b]] w fun e w' => e = .returned (.tuple #[.pointer (some ⟨w.heap.size + 2, 0, none⟩), .int .i64 0]) ∧ Lim w' (w.heap.size + 2) (w.heap.size + 1) r b 0 [] ∧ Below w.heap.size w w' := by
  have hmm := @run_makeMap Try.prog
  have HL := Lib.hid (lim_new w r b hr0 hr1 hb0 hb1)
  rcases Int.lt_trichotomy b r with hc | hc | hc
  · have hd : ¬ r < b := by omega
    go_enter Try.func9, Try.ntmps9
    go_wp2
    go_ret2
    exact ⟨rfl, HL.out _, (((Below.refl _ _).alloc (Nat.le_refl _) _).alloc (by simp) _).alloc (by simp; omega) _⟩
  · subst hc
    go_enter Try.func9, Try.ntmps9
    go_wp2
    go_ret2
    exact ⟨rfl, HL.out _, (((Below.refl _ _).alloc (Nat.le_refl _) _).alloc (by simp) _).alloc (by simp; omega) _⟩
  · have hd : ¬ b < r := by omega
    go_enter Try.func9, Try.ntmps9
    go_wp2
    go_ret2
    exact ⟨rfl, HL.out _, (((Below.refl _ _).alloc (Nat.le_refl _) _).alloc (by simp) _).alloc (by simp; omega) _⟩

theorem awake_any (w : World) : Calls Try.prog 8 #[] w fun e w' => e = .returned (.bool true) ∧ Below w.heap.size w w' := by
  go_enter Try.func8, Try.ntmps8
  go_wp2_with fail
  refine (new_ok 500 2 _ (by omega) (by omega) (by omega) (by omega)).mono ?_
  rintro e w1 ⟨rfl, L1, hb1⟩
  have HL1 := Lib.hid L1
  have HB1 := Lib.hid hb1
  clear L1 hb1
  go_wp2_with fail
  refine (allow_any HL1.out (by decide) (by decide) ⟨#[107]⟩ (by decide) 0 true 0 [([107], (1000, 0))] (by decide)).mono ?_
  rintro e w2 ⟨rfl, L2, ht2⟩
  have HL2 := Lib.hid L2
  have HB2 := Lib.hid (HB1.out.trans (ht2.to_below HB1.out.size (fun k h => by omega)))
  clear L2 ht2
  go_wp2_with fail
  refine (allow_any HL2.out (by decide) (by decide) ⟨#[107]⟩ (by decide) 0 true 0 [([107], (0, 0))] (by decide)).mono ?_
  rintro e w3 ⟨rfl, L3, ht3⟩
  have HL3 := Lib.hid L3
  have HB3 := Lib.hid (HB2.out.trans (ht3.to_below HB2.out.size (fun k h => by omega)))
  clear L3 ht3
  go_wp2_with fail
  refine (allow_any HL3.out (by decide) (by decide) ⟨#[107]⟩ (by decide) 0 false 1 [([107], (0, 0))] (by decide)).mono ?_
  rintro e w4 ⟨rfl, L4, ht4⟩
  have HL4 := Lib.hid L4
  have HB4 := Lib.hid (HB3.out.trans (ht4.to_below HB3.out.size (fun k h => by omega)))
  clear L4 ht4
  go_wp2_with fail
  refine (next_any HL4.out ⟨#[107]⟩ (by decide) 0 (by decide) (by decide) (0, 0) true (by decide)).mono ?_
  rintro e w5 ⟨rfl, hb5⟩
  have HL5 := Lib.hid (HL4.out.below hb5)
  have HB5 := Lib.hid (HB4.out.trans (hb5.mono HB4.out.size))
  clear hb5
  have hn : nextM 500 (0, 0) 0 = 2 := by decide
  rw [hn]
  clear hn
  go_wp2_with fail
  refine (allow_any HL5.out (by decide) (by decide) ⟨#[107]⟩ (by decide) 2 true 1 [([107], (0, 2))] (by decide)).mono ?_
  rintro e w6 ⟨rfl, L6, ht6⟩
  have HL6 := Lib.hid L6
  have HB6 := Lib.hid (HB5.out.trans (ht6.to_below HB5.out.size (fun k h => by omega)))
  clear L6 ht6
  go_wp2_with fail
  go_ret
  exact ⟨rfl, HB6.out⟩
end Go.Proofs.Ytgphhjghodhodaa
