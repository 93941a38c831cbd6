/- The walk of the world's same. -/
import Derived.Test.YtgphhjghodhodaaRefG
namespace Go.Proofs.Ytgphhjghodhodaa
open Go.RowKit Go.Maps Go.WideMaps Go.Proofs.YtgphhjghodhodaaMp Go.Proofs.YtgphhjghodhodaaW.PrintWords Go.Proofs.Ytgphhjghodhodaa.PNext
set_option linter.unusedVariables false

theorem left_two {w : World} {p m : Nat} {r b d : Int} {xs : List S71} (L : Lim w p m r b d (toB xs)) (key : ByteArray) (hkey : key.size ≤ maxLen) (t : Int) : ∃ l : Int,
    (∀ W, Lim W p m r b d (toB xs) → Calls Try.prog 12 #[.pointer (some ⟨p, 0, none⟩), .string key, .int .i64 t] W fun e w' => e = .returned (.int .i64 l) ∧ Below W.heap.size W w') ∧
    (∀ W A c, Kd.C k71 W A xs.length xs → xs.length ≤ c → Calls Try.prog 27 #[.agg #[.int .i64 r, .int .i64 b, .slice A xs.length c, .int .i64 d], .string key, .int .i64 t] W fun e w' => e = .returned (.int .i64 l) ∧ Below W.heap.size W w') := by
  by_cases ht : 0 ≤ t ∧ t ≤ 1099511627776
  · obtain ⟨x, is, hx⟩ : ∃ x is, bkOf r b (toB xs) key.data.toList t = (x, is) := ⟨_, _, rfl⟩
    obtain ⟨h0, h1, h2, h3⟩ := bkOf_inv L _ t ht.1 ht.2 x is hx
    have hb := L.b1
    exact ⟨x.1 / 1000, fun W LW => left_any LW key hkey t ht.1 ht.2 x is hx, fun W A c hC hcap => rleft_yes (rinv_of L) d t ht.1 ht.2 key x is hx h0 (by omega) A c W hC hcap⟩
  · exact ⟨0, fun W LW => (left_bad p key t ht W).mono (fun e w' h => ⟨h.1, h.2 ▸ Below.refl _ _⟩), fun W A c hC hcap => rleft_no r b d t _ ⟨A, _, c, rfl⟩ key ht W⟩

theorem bkOf_late {r b : Int} {B : List (Key × Bk)} {k : Key} {t : Int} {x : Bk} {is : Bool} (h : bkOf r b B k t = (x, is)) : t ≤ x.2 := by
  unfold bkOf at h
  cases hc : kvLook B k with
  | some c =>
    rw [hc] at h
    cases h
    unfold bkAt
    split
    · assumption
    · exact Int.le_refl _
  | none =>
    rw [hc] at h
    cases h
    exact Int.le_refl _

theorem next_two {w : World} {p m : Nat} {r b d : Int} {xs : List S71} (L : Lim w p m r b d (toB xs)) (key : ByteArray) (hkey : key.size ≤ maxLen) (t : Int) : ∃ l : Int,
    (∀ W, Lim W p m r b d (toB xs) → Calls Try.prog 16 #[.pointer (some ⟨p, 0, none⟩), .string key, .int .i64 t] W fun e w' => e = .returned (.int .i64 l) ∧ Below W.heap.size W w') ∧
    (∀ W A c, Kd.C k71 W A xs.length xs → xs.length ≤ c → Calls Try.prog 28 #[.agg #[.int .i64 r, .int .i64 b, .slice A xs.length c, .int .i64 d], .string key, .int .i64 t] W fun e w' => e = .returned (.int .i64 l) ∧ Below W.heap.size W w') := by
  by_cases ht : 0 ≤ t ∧ t ≤ 1099511627776
  · obtain ⟨x, is, hx⟩ : ∃ x is, bkOf r b (toB xs) key.data.toList t = (x, is) := ⟨_, _, rfl⟩
    obtain ⟨h0, h1, h2, h3⟩ := bkOf_inv L _ t ht.1 ht.2 x is hx
    exact ⟨nextM r x t, fun W LW => next_any LW key hkey t ht.1 ht.2 x is hx, fun W A c hC hcap => rnext_yes (rinv_of L) d t ht.1 ht.2 key x is hx h0 ⟨bkOf_late hx, h3⟩ A c W hC hcap⟩
  · exact ⟨0, fun W LW => (next_bad p key t ht W).mono (fun e w' h => ⟨h.1, h.2 ▸ Below.refl _ _⟩), fun W A c hC hcap => rnext_no d t key ht A c W hC hcap⟩

/-- What the walk of same has in hand. -/
structure SmRel (w W : World) (q p m : Nat) (A : Option Addr) (c : Nat) (r b d now : Int) (xs : List S71) : Prop where
  row : W.heap[q]? = some (.cells #[.pointer (some ⟨p, 0, none⟩), .int .i64 r, .int .i64 b, .slice A xs.length c, .int .i64 d, .int .i64 now] 49)
  ref : Kd.C k71 W A xs.length xs
  cap : xs.length ≤ c
  lim : Lim W p m r b d (toB xs)
  bel : Below w.heap.size w W

theorem SmRel.below {w W W' : World} {q p m : Nat} {A : Option Addr} {c : Nat} {r b d now : Int} {xs : List S71} (h : SmRel w W q p m A c r b d now xs) (t : Below W.heap.size W W') : SmRel w W' q p m A c r b d now xs :=
  ⟨(t.block q (Array.getElem?_eq_some_iff.1 h.row).1).trans h.row, Kd.C_below h.ref t, h.cap, h.lim.below t, h.bel.trans (t.mono h.bel.size)⟩
theorem SmRel.drew {w W : World} {q p m : Nat} {A : Option Addr} {c : Nat} {r b d now : Int} {xs : List S71} (h : SmRel w W q p m A c r b d now xs) : SmRel w W.drew q p m A c r b d now xs := h.below ((Below.refl _ _).drew)

theorem len_w {w : World} {p m : Nat} {r b d : Int} {B : List (Key × Bk)} (L : Lim w p m r b d B) :
    Calls Try.prog 18 #[.pointer (some ⟨p, 0, none⟩)] w fun e w' => e = .returned (.int .i64 (B.length : Int)) ∧ Below w.heap.size w w' := (len_any L).mono (fun e w' h => ⟨h.1, h.2 ▸ Below.refl _ _⟩)
theorem denied_w {w : World} {p m : Nat} {r b d : Int} {B : List (Key × Bk)} (L : Lim w p m r b d B) :
    Calls Try.prog 19 #[.pointer (some ⟨p, 0, none⟩)] w fun e w' => e = .returned (.int .i64 d) ∧ Below w.heap.size w w' := (denied_any L).mono (fun e w' h => ⟨h.1, h.2 ▸ Below.refl _ _⟩)

set_option maxRecDepth 100000 in
set_option maxHeartbeats 4000000 in
theorem same_any (w : World) (q p m : Nat) (r b d now : Int) (xs : List S71) (X : Wld w q p m r b d now xs) (key : ByteArray) (hkey : key.size ≤ maxLen) (t : Int) :
    Calls Try.prog 15 #[.pointer (some ⟨q, 0, none⟩), .string key, .int .i64 t] w fun e w' => e = .returned (.bool true) ∧ Below w.heap.size w w' := by
  obtain ⟨⟨A, c, hq, hR⟩, L, hqp, hqm⟩ := X
  obtain ⟨A2, c2, he2, hcap, hC⟩ := Kd.R_reads hR
  simp only [Value.slice.injEq] at he2
  obtain ⟨rfl, -, rfl⟩ := he2
  obtain ⟨l1, hl1, hr1⟩ := left_two L key hkey t
  obtain ⟨l2, hl2, hr2⟩ := next_two L key hkey t
  have hD : SmRel w w q p m A c r b d now xs := ⟨hq, hC, hcap, L, Below.refl _ _⟩
  have HD := Lib.hid hD
  have HL1 := Lib.hid hl1
  have HL2 := Lib.hid hl2
  have HR1 := Lib.hid hr1
  have HR2 := Lib.hid hr2
  have g0 := (cells_of hq 0).1
  have g1 := (cells_of hq 1).1
  have g2 := (cells_of hq 2).1
  have g3 := (cells_of hq 3).1
  have g4 := (cells_of hq 4).1
  simp only [List.getElem?_toArray, List.getElem?_cons_succ, List.getElem?_cons_zero] at g0 g1 g2 g3 g4
  have hlen : (toB xs).length = xs.length := toB_len xs
  clear hD hq hR L hC hl1 hl2 hr1 hr2
  go_enter Try.func15, Try.ntmps15
  go_wp2
  go_region_held3 (fun w' => w'.cell? ⟨q, 0, none⟩ = some (.pointer (some ⟨p, 0, none⟩)) ∧ w'.cell? ⟨q, 1, none⟩ = some (.int .i64 r) ∧ w'.cell? ⟨q, 2, none⟩ = some (.int .i64 b) ∧ w'.cell? ⟨q, 3, none⟩ = some (.slice A xs.length c) ∧ w'.cell? ⟨q, 4, none⟩ = some (.int .i64 d))
    (first | (with_reducible exact ⟨s0, s1, s2, s3, s4⟩) | (with_reducible exact ⟨g0, g1, g2, g3, g4⟩) | go_keep)
    (first
      | (go_at_call 12; (first | refine (HL1.out _ HD.out.lim).mono ?_ | refine (HL1.out _ HD.out.drew.lim).mono ?_); rintro e W1 ⟨rfl, hb⟩; have HD1 : RowKit.Hid (SmRel w W1 q p m A c r b d now xs) := (by first | exact Lib.hid (HD.out.below hb) | exact Lib.hid (HD.out.drew.below hb)); have s0 := (cells_of HD1.out.row 0).1; have s1 := (cells_of HD1.out.row 1).1; have s2 := (cells_of HD1.out.row 2).1; have s3 := (cells_of HD1.out.row 3).1; have s4 := (cells_of HD1.out.row 4).1; simp only [List.getElem?_toArray, List.getElem?_cons_succ, List.getElem?_cons_zero] at s0 s1 s2 s3 s4; clear hb)
      | (go_at_call 27; (first | refine (HR1.out _ _ _ HD1.out.ref HD1.out.cap).mono ?_ | refine (HR1.out _ _ _ HD1.out.drew.ref HD1.out.drew.cap).mono ?_); rintro e W2 ⟨rfl, hb⟩; have HD2 : RowKit.Hid (SmRel w W2 q p m A c r b d now xs) := (by first | exact Lib.hid (HD1.out.below hb) | exact Lib.hid (HD1.out.drew.below hb)); have s0 := (cells_of HD2.out.row 0).1; have s1 := (cells_of HD2.out.row 1).1; have s2 := (cells_of HD2.out.row 2).1; have s3 := (cells_of HD2.out.row 3).1; have s4 := (cells_of HD2.out.row 4).1; simp only [List.getElem?_toArray, List.getElem?_cons_succ, List.getElem?_cons_zero] at s0 s1 s2 s3 s4; clear hb)
      | (go_at_call 16; (first | refine (HL2.out _ HD2.out.lim).mono ?_ | refine (HL2.out _ HD2.out.drew.lim).mono ?_); rintro e W3 ⟨rfl, hb⟩; have HD3 : RowKit.Hid (SmRel w W3 q p m A c r b d now xs) := (by first | exact Lib.hid (HD2.out.below hb) | exact Lib.hid (HD2.out.drew.below hb)); have s0 := (cells_of HD3.out.row 0).1; have s1 := (cells_of HD3.out.row 1).1; have s2 := (cells_of HD3.out.row 2).1; have s3 := (cells_of HD3.out.row 3).1; have s4 := (cells_of HD3.out.row 4).1; simp only [List.getElem?_toArray, List.getElem?_cons_succ, List.getElem?_cons_zero] at s0 s1 s2 s3 s4; clear hb)
      | (go_at_call 28; (first | refine (HR2.out _ _ _ HD3.out.ref HD3.out.cap).mono ?_ | refine (HR2.out _ _ _ HD3.out.drew.ref HD3.out.drew.cap).mono ?_); rintro e W4 ⟨rfl, hb⟩; have HD4 : RowKit.Hid (SmRel w W4 q p m A c r b d now xs) := (by first | exact Lib.hid (HD3.out.below hb) | exact Lib.hid (HD3.out.drew.below hb)); have s0 := (cells_of HD4.out.row 0).1; have s1 := (cells_of HD4.out.row 1).1; have s2 := (cells_of HD4.out.row 2).1; have s3 := (cells_of HD4.out.row 3).1; have s4 := (cells_of HD4.out.row 4).1; simp only [List.getElem?_toArray, List.getElem?_cons_succ, List.getElem?_cons_zero] at s0 s1 s2 s3 s4; clear hb)
      | (go_at_call 18; (first | refine (len_w HD4.out.lim).mono ?_ | refine (len_w HD4.out.drew.lim).mono ?_); rintro e W5 ⟨rfl, hb⟩; have HD5 : RowKit.Hid (SmRel w W5 q p m A c r b d now xs) := (by first | exact Lib.hid (HD4.out.below hb) | exact Lib.hid (HD4.out.drew.below hb)); have s0 := (cells_of HD5.out.row 0).1; have s1 := (cells_of HD5.out.row 1).1; have s2 := (cells_of HD5.out.row 2).1; have s3 := (cells_of HD5.out.row 3).1; have s4 := (cells_of HD5.out.row 4).1; simp only [List.getElem?_toArray, List.getElem?_cons_succ, List.getElem?_cons_zero] at s0 s1 s2 s3 s4; clear hb)
      | (go_at_call 19; (first | refine (denied_w HD5.out.lim).mono ?_ | refine (denied_w HD5.out.drew.lim).mono ?_); rintro e W6 ⟨rfl, hb⟩; have HD6 : RowKit.Hid (SmRel w W6 q p m A c r b d now xs) := (by first | exact Lib.hid (HD5.out.below hb) | exact Lib.hid (HD5.out.drew.below hb)); have s0 := (cells_of HD6.out.row 0).1; have s1 := (cells_of HD6.out.row 1).1; have s2 := (cells_of HD6.out.row 2).1; have s3 := (cells_of HD6.out.row 3).1; have s4 := (cells_of HD6.out.row 4).1; simp only [List.getElem?_toArray, List.getElem?_cons_succ, List.getElem?_cons_zero] at s0 s1 s2 s3 s4; clear hb))
  go_wp2
  go_ret
  exact ⟨rfl, HD6.out.bel⟩
end Go.Proofs.Ytgphhjghodhodaa
