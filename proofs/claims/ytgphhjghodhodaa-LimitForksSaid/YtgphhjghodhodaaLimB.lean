/- The walks of limit's greater functions: get, Left, Next, Forget, Allow. -/
import Derived.Test.YtgphhjghodhodaaLimA
namespace Go.Proofs.Ytgphhjghodhodaa
open Go.RowKit Go.Maps Go.WideMaps Go.Proofs.YtgphhjghodhodaaMp
set_option linter.unusedVariables false

theorem bcell {W w1 : World} (hb : Below W.heap.size W w1) : (∀ b o, b < W.heap.size → w1.cell? ⟨b, o, none⟩ = W.cell? ⟨b, o, none⟩) ∧ (∀ b o, b < W.heap.size → w1.frozen? ⟨b, o, none⟩ = W.frozen? ⟨b, o, none⟩) :=
  ⟨fun b o h => hb.cell (p := ⟨b, o, none⟩) h, fun b o h => hb.frozen (p := ⟨b, o, none⟩) h⟩

/-! ### the look-up, at the operation -/
section
variable {ops : Array Oper} {rest : List Oper} {o : Oper} {a : Act} {Q : Exit → Act → World → Prop}
theorem lookup_hit (w : World) (hg : o.guard = none) (mo x : Operand) (hop : o.op = Op.lookup 57 mo x true) (m n : Nat) (D : DataW Unit) (B : List (Key × Bk)) (hm : a.eval mo = .map (some m)) (hown : w.ownsMap Try.prog 9 bkElem m n D) (hr : MRep klit bdat D B)
    (s : ByteArray) (hs : s.size ≤ maxLen) (hx : a.eval x = .string s) (c : Bk) (hc : kvLook B s.data.toList = some c)
    (hK : wpList Try.prog ops Q rest (a.put o.dst (.tuple #[.agg #[.int .i64 c.1, .int .i64 c.2], .bool true])) w) : wpList Try.prog ops Q (o :: rest) a w := by
  have hh := hr.hit s.data.toList c hc
  refine wpList_lookup_own_ok w hg mo x 57 hop 9 62 law9 Try.underlying57 bkElem (zero62 w) (bdat (0, 0)) [] (bkElem_mk (0, 0)) m n D hm hown (.string s) (.string s.data.toList) hx (keyOf_string_mk Try.underlying9 hs) (fun v ps hv => ?_)
  have h2 : D.atKey (.string s.data.toList) (bdat (0, 0)) = bdat c := hh.2 _
  rw [h2] at hv
  obtain ⟨c', rfl, hz⟩ := bkElem_inv hv
  simp only [Prod.mk.injEq] at hz
  obtain rfl := bdat_inj hz.1
  have h1 : Maps.has D (.string s.data.toList) = true := hh.1
  rw [h1]
  exact hK
theorem lookup_miss (w : World) (hg : o.guard = none) (mo x : Operand) (hop : o.op = Op.lookup 57 mo x true) (m n : Nat) (D : DataW Unit) (B : List (Key × Bk)) (hm : a.eval mo = .map (some m)) (hown : w.ownsMap Try.prog 9 bkElem m n D) (hr : MRep klit bdat D B)
    (s : ByteArray) (hs : s.size ≤ maxLen) (hx : a.eval x = .string s) (hc : kvLook B s.data.toList = none)
    (hK : wpList Try.prog ops Q rest (a.put o.dst (.tuple #[.agg #[.int .i64 0, .int .i64 0], .bool false])) w) : wpList Try.prog ops Q (o :: rest) a w := by
  have hh : Maps.has D (.string s.data.toList) = false := hr.miss s.data.toList hc
  refine wpList_lookup_own_ok w hg mo x 57 hop 9 62 law9 Try.underlying57 bkElem (zero62 w) (bdat (0, 0)) [] (bkElem_mk (0, 0)) m n D hm hown (.string s) (.string s.data.toList) hx (keyOf_string_mk Try.underlying9 hs) (fun v ps hv => ?_)
  rw [atKey_of_not_has hh] at hv
  obtain ⟨c', rfl, hz⟩ := bkElem_inv hv
  simp only [Prod.mk.injEq] at hz
  obtain rfl := bdat_inj hz.1
  rw [hh]
  exact hK
end

theorem get_hit {w : World} {p m : Nat} {r b d : Int} {B : List (Key × Bk)} (L : Lim w p m r b d B) (s : ByteArray) (hs : s.size ≤ maxLen) (t : Int) (ht : t ≤ 1099511627776) (c : Bk) (hc : kvLook B s.data.toList = some c) :
    Calls Try.prog 22 #[.pointer (some ⟨p, 0, none⟩), .string s, .int .i64 t] w fun e w' => e = .returned (.tuple #[.agg #[.int .i64 (bkAt r b c t).1, .int .i64 (bkAt r b c t).2], .bool true]) ∧ Below w.heap.size w w' := by
  have c2 := L.c2
  have hlt := L.lt
  have HL := Lib.hid L
  have hi := L.inv _ (kvLook_some_mem hc)
  obtain ⟨D, ho, hr⟩ := L.own
  have HC := Lib.hid hc
  have HO := Lib.hid ho
  clear hc ho L
  go_enter Try.func22, Try.ntmps22
  go_wp2_with (first
    | (at_lookup; refine lookup_hit _ rfl _ _ rfl m B.length D B rfl (by exact HO.out.alloc _) hr s hs rfl c HC.out ?_)
    | fail)
  have L1 : Lim ((w.alloc (.cells #[.int .i64 0, .int .i64 0] 62)).alloc (.cells #[.int .i64 c.1, .int .i64 c.2] 62)) p m r b d B := HL.out.below (((Below.refl _ _).alloc (Nat.le_refl _) _).alloc (by simp) _)
  refine (later_any L1 c t hi ht).mono ?_
  rintro e w1 ⟨rfl, hb1⟩
  have HB := Lib.hid hb1
  obtain ⟨hc1, hf1⟩ := bcell hb1
  have hz : w.heap.size < w1.heap.size := by have := hb1.size; simp at this; omega
  have z0 : w1.cell? ⟨w.heap.size, 0, none⟩ = some (.int .i64 0) := by rw [hc1 _ _ (by simp; omega)]; go_simp
  have z1 : w1.cell? ⟨w.heap.size, 1, none⟩ = some (.int .i64 0) := by rw [hc1 _ _ (by simp; omega)]; go_simp
  have g0 : w1.frozen? ⟨w.heap.size, 0, none⟩ = false := by rw [hf1 _ _ (by simp; omega)]; go_simp
  have g1 : w1.frozen? ⟨w.heap.size, 1, none⟩ = false := by rw [hf1 _ _ (by simp; omega)]; go_simp
  clear hb1 L1 hc1 hf1
  go_wp2
  exact bodyPost_ret (v := .tuple #[.agg #[.int .i64 (bkAt r b c t).1, .int .i64 (bkAt r b c t).2], .bool true]) (by simp only [results, Try.results22]; go_simp) rfl
    ⟨rfl, (((((Below.refl _ _).alloc (Nat.le_refl _) _).alloc (by simp) _).trans (HB.out.mono (by simp; omega))).setCell (by simp) _).setCell (by simp) _⟩

theorem get_miss {w : World} {p m : Nat} {r b d : Int} {B : List (Key × Bk)} (L : Lim w p m r b d B) (s : ByteArray) (hs : s.size ≤ maxLen) (t : Int) (hc : kvLook B s.data.toList = none) :
    Calls Try.prog 22 #[.pointer (some ⟨p, 0, none⟩), .string s, .int .i64 t] w fun e w' => e = .returned (.tuple #[.agg #[.int .i64 (1000 * b), .int .i64 t], .bool false]) ∧ Below w.heap.size w w' := by
  have c2 := L.c2
  have c1 := L.c1
  have hlt := L.lt
  have hb0 := L.b0
  have hb1 := L.b1
  obtain ⟨D, ho, hr⟩ := L.own
  have HC := Lib.hid hc
  have HO := Lib.hid ho
  clear hc ho L
  go_enter Try.func22, Try.ntmps22
  go_wp2_with (first
    | (at_lookup; refine lookup_miss _ rfl _ _ rfl m B.length D B rfl (by exact HO.out.alloc _) hr s hs rfl HC.out ?_)
    | (go_at_call 24; refine (full_any p b _ (by first | (simp; done) | (go_simp; done)) hb0 hb1).mono ?_; rintro e w' ⟨rfl, rfl⟩)
    | fail)
  exact bodyPost_ret (v := .tuple #[.agg #[.int .i64 (1000 * b), .int .i64 t], .bool false]) (by simp [results, Try.results22, go_sem]) rfl
    ⟨rfl, ((Below.refl _ _).alloc (Nat.le_refl _) _).alloc (by simp) _⟩

/-- A key's bucket at a time, and whether it is there. -/
def bkOf (r b : Int) (B : List (Key × Bk)) (k : Key) (t : Int) : Bk × Bool :=
  match kvLook B k with
  | some c => (bkAt r b c t, true)
  | none => ((1000 * b, t), false)

theorem get_any {w : World} {p m : Nat} {r b d : Int} {B : List (Key × Bk)} (L : Lim w p m r b d B) (s : ByteArray) (hs : s.size ≤ maxLen) (t : Int) (ht : t ≤ 1099511627776) (x : Bk) (is : Bool) (hx : bkOf r b B s.data.toList t = (x, is)) :
    Calls Try.prog 22 #[.pointer (some ⟨p, 0, none⟩), .string s, .int .i64 t] w fun e w' => e = .returned (.tuple #[.agg #[.int .i64 x.1, .int .i64 x.2], .bool is]) ∧ Below w.heap.size w w' := by
  unfold bkOf at hx
  cases hc : kvLook B s.data.toList with
  | some c => rw [hc] at hx; cases hx; exact get_hit L s hs t ht c hc
  | none => rw [hc] at hx; cases hx; exact get_miss L s hs t hc

theorem bkOf_inv {w : World} {p m : Nat} {r b d : Int} {B : List (Key × Bk)} (L : Lim w p m r b d B) (k : Key) (t : Int) (ht0 : 0 ≤ t) (ht : t ≤ 1099511627776) (x : Bk) (is : Bool) (hx : bkOf r b B k t = (x, is)) :
    0 ≤ x.1 ∧ x.1 ≤ 1000 * b ∧ 0 ≤ x.2 ∧ x.2 ≤ 1099511627776 := by
  have hb := L.b0
  unfold bkOf at hx
  cases hc : kvLook B k with
  | some c =>
    rw [hc] at hx
    cases hx
    exact bkAt_inv L.b0 L.r0 (L.inv _ (kvLook_some_mem hc)) ht
  | none =>
    rw [hc] at hx
    cases hx
    simp only
    omega

/-! ### Left, Next, Len, Denied -/
theorem may_any (t : Int) (w : World) : Calls Try.prog 20 #[.int .i64 t] w fun e w' => e = .returned (.bool (decide (0 ≤ t ∧ t ≤ 1099511627776))) ∧ w = w' := by
  by_cases h0 : 0 ≤ t <;> by_cases h1 : t ≤ 1099511627776
  all_goals
    go_enter Try.func20, Try.ntmps20
    go_wp2
    go_ret
    exact ⟨by simp [*], rfl⟩
theorem may_yes (t : Int) (w : World) (h0 : 0 ≤ t) (h1 : t ≤ 1099511627776) : Calls Try.prog 20 #[.int .i64 t] w fun e w' => e = .returned (.bool true) ∧ w = w' :=
  (may_any t w).mono fun e w' h => ⟨by simpa [h0, h1] using h.1, h.2⟩
theorem may_not (t : Int) (w : World) (h : ¬ (0 ≤ t ∧ t ≤ 1099511627776)) : Calls Try.prog 20 #[.int .i64 t] w fun e w' => e = .returned (.bool false) ∧ w = w' :=
  (may_any t w).mono fun e w' h' => ⟨by simpa [h] using h'.1, h'.2⟩

theorem left_bad (p : Nat) (s : ByteArray) (t : Int) (h : ¬ (0 ≤ t ∧ t ≤ 1099511627776)) (w : World) :
    Calls Try.prog 12 #[.pointer (some ⟨p, 0, none⟩), .string s, .int .i64 t] w fun e w' => e = .returned (.int .i64 0) ∧ w = w' := by
  have HH := Lib.hid h
  clear h
  go_enter Try.func12, Try.ntmps12
  go_wp2_with (first | (go_at_call 20; refine (may_not t _ HH.out).mono ?_; rintro e w' ⟨rfl, rfl⟩) | fail)
  go_ret
  exact ⟨rfl, rfl⟩

theorem left_any {w : World} {p m : Nat} {r b d : Int} {B : List (Key × Bk)} (L : Lim w p m r b d B) (s : ByteArray) (hs : s.size ≤ maxLen) (t : Int) (ht0 : 0 ≤ t) (ht : t ≤ 1099511627776) (x : Bk) (is : Bool) (hx : bkOf r b B s.data.toList t = (x, is)) :
    Calls Try.prog 12 #[.pointer (some ⟨p, 0, none⟩), .string s, .int .i64 t] w fun e w' => e = .returned (.int .i64 (x.1 / 1000)) ∧ Below w.heap.size w w' := by
  obtain ⟨hi0, hi1, hi2, hi3⟩ := bkOf_inv L _ t ht0 ht x is hx
  have hb := L.b1
  have HX := Lib.hid hx
  have HL := Lib.hid L
  clear hx L
  go_enter Try.func12, Try.ntmps12
  go_wp2_with (first | (go_at_call 20; refine (may_yes t _ ht0 ht).mono ?_; rintro e w' ⟨rfl, rfl⟩) | fail)
  refine (get_any HL.out s hs t ht x is HX.out).mono ?_
  rintro e w1 ⟨rfl, hb1⟩
  have HB := Lib.hid hb1
  clear hb1
  go_wp2
  go_ret
  exact ⟨rfl, HB.out.alloc HB.out.size _⟩

end Go.Proofs.Ytgphhjghodhodaa
