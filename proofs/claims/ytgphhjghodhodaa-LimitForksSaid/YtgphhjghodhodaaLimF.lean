/- The walk of Allow where full buckets are forgotten first; all its ways in one. -/
import Derived.Test.YtgphhjghodhodaaLimE
namespace Go.Proofs.Ytgphhjghodhodaa
open Go.RowKit Go.Maps Go.WideMaps Go.Proofs.YtgphhjghodhodaaMp
set_option linter.unusedVariables false

theorem Turn.cell {S : Nat → Prop} {w w' : World} (t : Turn S w w') {p : Addr} (hp : p.block < w.heap.size) (hs : ¬ S p.block) : w'.cell? p = w.cell? p := World.cell?_of_block (w := w) (t.block p.block hp hs)
theorem Turn.frozen {S : Nat → Prop} {w w' : World} (t : Turn S w w') {p : Addr} (hp : p.block < w.heap.size) (hs : ¬ S p.block) : w'.frozen? p = w.frozen? p := World.frozen?_of_block (w := w) (t.block p.block hp hs)

theorem forget_miss {w : World} {p m : Nat} {r b d : Int} {B : List (Key × Bk)} (L : Lim w p m r b d B) {k : Key} (h : kvLook B k = none) (t : Int) : kvLook (forgetM r b B t) k = none := by
  obtain ⟨D, _, hr⟩ := L.own
  unfold forgetM
  rw [kvLook_filter_key hr.once, h]
  rfl

set_option maxRecDepth 100000 in
theorem allow_forget_yes {w : World} {p m : Nat} {r b d : Int} {B : List (Key × Bk)} (L : Lim w p m r b d B) (s : ByteArray) (hs : s.size ≤ maxLen) (t : Int) (ht0 : 0 ≤ t) (ht : t ≤ 1099511627776) (x : Bk) (hx : bkOf r b B s.data.toList t = (x, false)) (h1 : 1000 ≤ x.1) (hlen : 256 ≤ B.length) (hlen2 : (forgetM r b B t).length < 256) :
    Calls Try.prog 10 #[.pointer (some ⟨p, 0, none⟩), .string s, .int .i64 t] w fun e w' => e = .returned (.bool true) ∧ Lim w' p m r b d (putB (forgetM r b B t) s.data.toList (x.1 - 1000, x.2)) ∧ Turn (fun k => k = m) w w' := by
  obtain ⟨hi0, hi1, hi2, hi3⟩ := bkOf_inv L _ t ht0 ht x false hx
  have hb := L.b1
  have HX := Lib.hid hx
  have HL := Lib.hid L
  have hlt := L.lt
  have hltm := L.ltm
  clear hx L
  go_enter Try.func10, Try.ntmps10
  go_wp2_with (first | (go_at_call 20; refine (may_yes t _ ht0 ht).mono ?_; rintro e w' ⟨rfl, rfl⟩) | fail)
  refine (get_any HL.out s hs t ht x false HX.out).mono ?_
  rintro e w1 ⟨rfl, hb1⟩
  have L1 := HL.out.below hb1
  have k2 := L1.c2
  have hl1 := L1.lt
  have hm1 := L1.ltm
  have HL1 := Lib.hid L1
  have HB := Lib.hid hb1
  clear hb1 L1
  obtain ⟨D, ho, hr⟩ := HL1.out.own
  have hrun := (ho.alloc (.cells #[.int .i64 x.1, .int .i64 x.2] 62)).len Try.underlying57 3
  rw [hr.size] at hrun
  clear ho hr
  go_wp2_with fail
  clear hrun
  have L3 : Lim (w1.alloc (.cells #[.int .i64 x.1, .int .i64 x.2] 62)) p m r b d B := HL1.out.below ((Below.refl _ _).alloc (Nat.le_refl _) _)
  refine (forget_any L3 t ht0 ht).mono ?_
  rintro e w2 ⟨rfl, L4, ht4⟩
  have q2 := L4.c2
  have ql := L4.lt
  have qm := L4.ltm
  have n0 : w2.cell? ⟨w1.heap.size, 0, none⟩ = some (.int .i64 x.1) := by rw [ht4.cell (by simp) (by simp; omega)]; go_simp
  have n1 : w2.cell? ⟨w1.heap.size, 1, none⟩ = some (.int .i64 x.2) := by rw [ht4.cell (by simp) (by simp; omega)]; go_simp
  have g0 : w2.frozen? ⟨w1.heap.size, 0, none⟩ = false := by rw [ht4.frozen (by simp) (by simp; omega)]; go_simp
  have hsz : w1.heap.size < w2.heap.size := by have := ht4.size; simp at this; omega
  have HL4 := Lib.hid L4
  have HT4 := Lib.hid (((Turn.of_below (S := fun k => k = m) HB.out).trans (Turn.of_below (S := fun k => k = m) ((Below.refl w1.heap.size w1).alloc (Nat.le_refl _) _))).trans ht4)
  obtain ⟨D, ho, hr⟩ := L4.own
  have hrun := ho.len Try.underlying57 3
  rw [hr.size] at hrun
  clear ho hr L3 L4 ht4
  go_wp2
  clear hrun
  refine still_tail_drew 6 (by kernel_rfl) (by kernel_rfl) ?_
  simp only [List.take_succ_cons, List.take_zero, List.drop_succ_cons, List.drop_zero]
  repeat still_step
  refine wpStill_nil ?_
  have hA : Turn (fun k => k = w1.heap.size) w2 (w2.setCell ⟨w1.heap.size, 0, none⟩ (.int .i64 (x.1 - 1000))).drew := ⟨rfl, rfl, rfl, by simp [World.setCell, World.drew], fun k hk hn => Below.heap_setCell _ _ _ _ hn⟩
  have L5 : Lim (w2.setCell ⟨w1.heap.size, 0, none⟩ (.int .i64 (x.1 - 1000))).drew p m r b d (forgetM r b B t) := HL4.out.kept hA (by omega) (by omega)
  have HA : Turn (fun k => k = m) w (w2.setCell ⟨w1.heap.size, 0, none⟩ (.int .i64 (x.1 - 1000))).drew :=
    ⟨hA.os.trans HT4.out.os, hA.tape.trans HT4.out.tape, hA.output.trans HT4.out.output, Nat.le_trans HT4.out.size hA.size, fun k hk hn => (hA.block k (Nat.lt_of_lt_of_le hk HT4.out.size) (by have := HB.out.size; omega)).trans (HT4.out.block k hk hn)⟩
  refine store_bk _ rfl _ _ _ rfl m (forgetM r b B t) rfl L5.own L5.few s hs rfl (x.1 - 1000) x.2 rfl ?_
  intro w3 ho3 ht3
  have LF := L5.stored ho3 ht3 (by rw [length_putB]; split <;> omega) (putB_inv L5.inv (by simp only; omega))
  have TF := HA.trans (Turn.grown (S := fun k => k = m) ht3.grown (fun k e _ => by cases e; rfl))
  have HF := Lib.hid LF
  have HT := Lib.hid TF
  clear LF TF ho3 ht3 L5 HA hA
  go_wp2
  go_ret
  exact ⟨rfl, HF.out, HT.out⟩

set_option maxRecDepth 100000 in
theorem allow_forget_no {w : World} {p m : Nat} {r b d : Int} {B : List (Key × Bk)} (L : Lim w p m r b d B) (hd : 0 ≤ d) (hd1 : d ≤ 1000000000) (s : ByteArray) (hs : s.size ≤ maxLen) (t : Int) (ht0 : 0 ≤ t) (ht : t ≤ 1099511627776) (x : Bk) (hx : bkOf r b B s.data.toList t = (x, false)) (h1 : 1000 ≤ x.1) (hlen : 256 ≤ B.length) (hlen2 : 256 ≤ (forgetM r b B t).length) :
    Calls Try.prog 10 #[.pointer (some ⟨p, 0, none⟩), .string s, .int .i64 t] w fun e w' => e = .returned (.bool false) ∧ Lim w' p m r b (d + 1) (forgetM r b B t) ∧ Turn (fun k => k = p ∨ k = m) w w' := by
  obtain ⟨hi0, hi1, hi2, hi3⟩ := bkOf_inv L _ t ht0 ht x false hx
  have hb := L.b1
  have HX := Lib.hid hx
  have HL := Lib.hid L
  have hlt := L.lt
  have hltm := L.ltm
  clear hx L
  go_enter Try.func10, Try.ntmps10
  go_wp2_with (first | (go_at_call 20; refine (may_yes t _ ht0 ht).mono ?_; rintro e w' ⟨rfl, rfl⟩) | fail)
  refine (get_any HL.out s hs t ht x false HX.out).mono ?_
  rintro e w1 ⟨rfl, hb1⟩
  have L1 := HL.out.below hb1
  have k2 := L1.c2
  have hl1 := L1.lt
  have hm1 := L1.ltm
  have HL1 := Lib.hid L1
  have HB := Lib.hid hb1
  clear hb1 L1
  obtain ⟨D, ho, hr⟩ := HL1.out.own
  have hrun := (ho.alloc (.cells #[.int .i64 x.1, .int .i64 x.2] 62)).len Try.underlying57 3
  rw [hr.size] at hrun
  clear ho hr
  go_wp2_with fail
  clear hrun
  have L3 : Lim (w1.alloc (.cells #[.int .i64 x.1, .int .i64 x.2] 62)) p m r b d B := HL1.out.below ((Below.refl _ _).alloc (Nat.le_refl _) _)
  refine (forget_any L3 t ht0 ht).mono ?_
  rintro e w2 ⟨rfl, L4, ht4⟩
  have q2 := L4.c2
  have ql := L4.lt
  have qm := L4.ltm
  have n0 : w2.cell? ⟨w1.heap.size, 0, none⟩ = some (.int .i64 x.1) := by rw [ht4.cell (by simp) (by simp; omega)]; go_simp
  have n1 : w2.cell? ⟨w1.heap.size, 1, none⟩ = some (.int .i64 x.2) := by rw [ht4.cell (by simp) (by simp; omega)]; go_simp
  have g0 : w2.frozen? ⟨w1.heap.size, 0, none⟩ = false := by rw [ht4.frozen (by simp) (by simp; omega)]; go_simp
  have hsz : w1.heap.size < w2.heap.size := by have := ht4.size; simp at this; omega
  have HL4 := Lib.hid L4
  have HT4 := Lib.hid (((Turn.of_below (S := fun k => k = m) HB.out).trans (Turn.of_below (S := fun k => k = m) ((Below.refl w1.heap.size w1).alloc (Nat.le_refl _) _))).trans ht4)
  obtain ⟨D, ho, hr⟩ := L4.own
  have hrun := ho.len Try.underlying57 3
  rw [hr.size] at hrun
  clear ho hr L3 L4 ht4
  go_wp2_with (first
    | (go_at_call 21; refine (deny_any HL4.out hd hd1).mono ?_; rintro e w' ⟨rfl, rfl⟩)
    | fail)
  go_ret
  exact ⟨rfl, HL4.out.denied, (HT4.out.mono (fun k _ e => .inr e)).trans (turn_denied _ p _ _ (.inl rfl))⟩

/-- Allow. -/
theorem allow_any {w : World} {p m : Nat} {r b d : Int} {B : List (Key × Bk)} (L : Lim w p m r b d B) (hd : 0 ≤ d) (hd1 : d ≤ 1000000000) (s : ByteArray) (hs : s.size ≤ maxLen) (t : Int) (ok : Bool) (d' : Int) (B' : List (Key × Bk))
    (h : allowM r b B d s.data.toList t = (ok, d', B')) :
    Calls Try.prog 10 #[.pointer (some ⟨p, 0, none⟩), .string s, .int .i64 t] w fun e w' => e = .returned (.bool ok) ∧ Lim w' p m r b d' B' ∧ Turn (fun k => k = p ∨ k = m) w w' := by
  unfold allowM at h
  by_cases ht : 0 ≤ t ∧ t ≤ 1099511627776
  · rw [if_pos ht] at h
    cases hc : kvLook B s.data.toList with
    | some c =>
      rw [hc] at h
      simp only at h
      have hx : bkOf r b B s.data.toList t = (bkAt r b c t, true) := by unfold bkOf; rw [hc]
      by_cases h1 : 1000 ≤ (bkAt r b c t).1
      · rw [if_pos h1] at h
        cases h
        exact (allow_hit_yes L s hs t ht.1 ht.2 _ hx h1).mono (fun e w' q => ⟨q.1, q.2.1, q.2.2.mono (fun k _ e => .inr e)⟩)
      · rw [if_neg h1] at h
        cases h
        exact allow_hit_no L hd hd1 s hs t ht.1 ht.2 _ hx (by omega)
    | none =>
      rw [hc] at h
      simp only at h
      have hb := L.b0
      have hx : bkOf r b B s.data.toList t = ((1000 * b, t), false) := by unfold bkOf; rw [hc]
      by_cases h1 : B.length < 256
      · rw [if_pos h1] at h
        cases h
        exact (allow_miss_few L s hs t ht.1 ht.2 _ hx (by simp only; omega) h1).mono (fun e w' q => ⟨q.1, q.2.1, q.2.2.mono (fun k _ e => .inr e)⟩)
      · rw [if_neg h1] at h
        by_cases h2 : (forgetM r b B t).length < 256
        · rw [if_pos h2] at h
          cases h
          exact (allow_forget_yes L s hs t ht.1 ht.2 _ hx (by simp only; omega) (by omega) h2).mono (fun e w' q => ⟨q.1, q.2.1, q.2.2.mono (fun k _ e => .inr e)⟩)
        · rw [if_neg h2] at h
          cases h
          exact allow_forget_no L hd hd1 s hs t ht.1 ht.2 _ hx (by simp only; omega) (by omega) (by omega)
  · rw [if_neg ht] at h
    cases h
    refine (allow_bad L hd hd1 s t ht).mono (fun e w' q => ⟨q.1, ?_, ?_⟩)
    · rw [q.2]; exact L.denied
    · rw [q.2]; exact turn_denied _ p _ _ (.inl rfl)

end Go.Proofs.Ytgphhjghodhodaa
