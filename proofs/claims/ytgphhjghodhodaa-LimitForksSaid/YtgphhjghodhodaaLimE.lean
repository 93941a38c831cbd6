/- The walk of Allow. -/
import Derived.Test.YtgphhjghodhodaaLimD
namespace Go.Proofs.Ytgphhjghodhodaa
open Go.RowKit Go.Maps Go.WideMaps Go.Proofs.YtgphhjghodhodaaMp
set_option linter.unusedVariables false

/-- A call's answer, the denials, the buckets. -/
def allowM (r b : Int) (B : List (Key × Bk)) (d : Int) (k : Key) (t : Int) : Bool × Int × List (Key × Bk) :=
  if 0 ≤ t ∧ t ≤ 1099511627776 then
    match kvLook B k with
    | some c => if 1000 ≤ (bkAt r b c t).1 then (true, d, putB B k ((bkAt r b c t).1 - 1000, (bkAt r b c t).2)) else (false, d + 1, putB B k (bkAt r b c t))
    | none =>
      if B.length < 256 then (true, d, putB B k (1000 * b - 1000, t))
      else if (forgetM r b B t).length < 256 then (true, d, putB (forgetM r b B t) k (1000 * b - 1000, t))
      else (false, d + 1, forgetM r b B t)
  else (false, d + 1, B)

section
variable {ops : Array Oper} {rs : List Oper} {o : Oper} {a : Act} {Q : Exit → Act → World → Prop}
theorem store_bk (w : World) (hg : o.guard = none) (mo x v : Operand) (hop : o.op = Op.mapUpdate 57 mo x v) (m : Nat) (B : List (Key × Bk)) (hm : a.eval mo = .map (some m)) (hown : ∃ D, w.ownsMap Try.prog 9 bkElem m B.length D ∧ MRep klit bdat D B) (hfew : B.length ≤ 1000000)
    (s : ByteArray) (hs : s.size ≤ maxLen) (hx : a.eval x = .string s) (h e : Int) (hv : a.eval v = .agg #[.int .i64 h, .int .i64 e])
    (hK : ∀ w', (∃ D, w'.ownsMap Try.prog 9 bkElem m (putB B s.data.toList (h, e)).length D ∧ MRep klit bdat D (putB B s.data.toList (h, e))) → w.mapTurned w' m → wpList Try.prog ops Q rs (a.put o.dst undef) w') : wpList Try.prog ops Q (o :: rs) a w := by
  obtain ⟨D, ho, hr⟩ := hown
  refine wpList_mapUpdate_in w hg mo x v 57 hop 9 62 law9 Try.underlying57 bkElem m B.length D hm ho (by unfold maxLen; omega) (.string s) (.agg #[.int .i64 h, .int .i64 e]) (.string s.data.toList) hx hv (keyOf_string_mk Try.underlying9 hs) (bdat (h, e)) [] (bkElem_mk (h, e)) (fun w' ho' ht' => ?_)
  have hr' : MRep klit bdat (D.put (.string s.data.toList) (bdat (h, e))) (putB B s.data.toList (h, e)) := hr.put kway s.data.toList (h, e)
  exact hK w' ⟨_, owns_tight ho' hr'.size, hr'⟩ ht'
end

theorem allow_bad {w : World} {p m : Nat} {r b d : Int} {B : List (Key × Bk)} (L : Lim w p m r b d B) (hd : 0 ≤ d) (hd1 : d ≤ 1000000000) (s : ByteArray) (t : Int) (h : ¬ (0 ≤ t ∧ t ≤ 1099511627776)) :
    Calls Try.prog 10 #[.pointer (some ⟨p, 0, none⟩), .string s, .int .i64 t] w fun e w' => e = .returned (.bool false) ∧ w' = w.setCell ⟨p, 3, none⟩ (.int .i64 (d + 1)) := by
  have HH := Lib.hid h
  have HL := Lib.hid L
  clear h L
  go_enter Try.func10, Try.ntmps10
  go_wp2_with (first
    | (go_at_call 20; refine (may_not t _ HH.out).mono ?_; rintro e w' ⟨rfl, rfl⟩)
    | (go_at_call 21; refine (deny_any HL.out hd hd1).mono ?_; rintro e w' ⟨rfl, rfl⟩)
    | fail)
  go_ret
  exact ⟨rfl, rfl⟩

theorem Lim.stored {w w' : World} {p m : Nat} {r b d : Int} {B B' : List (Key × Bk)} (L : Lim w p m r b d B) (ho : ∃ D, w'.ownsMap Try.prog 9 bkElem m B'.length D ∧ MRep klit bdat D B') (ht : w.mapTurned w' m) (hf : B'.length ≤ 1000000)
    (hi : ∀ x ∈ B', 0 ≤ x.2.1 ∧ x.2.1 ≤ 1000 * b ∧ 0 ≤ x.2.2 ∧ x.2.2 ≤ 1099511627776) : Lim w' p m r b d B' :=
  ⟨(ht.grown.block p L.lt (by simp; exact L.ne)).trans L.blk, L.ne, ho, L.r0, L.r1, L.b0, L.b1, hf, hi⟩

theorem mem_putB {B : List (Key × Bk)} {k : Key} {c : Bk} {x : Key × Bk} (h : x ∈ putB B k c) : x ∈ B ∨ x = (k, c) := by
  unfold putB at h
  split at h
  · obtain ⟨y, hy, rfl⟩ := List.mem_map.1 h
    split
    · exact .inr rfl
    · exact .inl hy
  · rcases List.mem_append.1 h with h | h
    · exact .inl h
    · exact .inr (by simpa using h)

theorem putB_inv {b : Int} {B : List (Key × Bk)} {k : Key} {c : Bk} (hB : ∀ x ∈ B, 0 ≤ x.2.1 ∧ x.2.1 ≤ 1000 * b ∧ 0 ≤ x.2.2 ∧ x.2.2 ≤ 1099511627776) (hc : 0 ≤ c.1 ∧ c.1 ≤ 1000 * b ∧ 0 ≤ c.2 ∧ c.2 ≤ 1099511627776) :
    ∀ x ∈ putB B k c, 0 ≤ x.2.1 ∧ x.2.1 ≤ 1000 * b ∧ 0 ≤ x.2.2 ∧ x.2.2 ≤ 1099511627776 := by
  intro x hx
  rcases mem_putB hx with hx | rfl
  · exact hB x hx
  · exact hc

theorem few_hit {r b : Int} {B : List (Key × Bk)} {k : Key} {t : Int} {x c : Bk} (hx : bkOf r b B k t = (x, true)) (hf : B.length ≤ 1000000) : (putB B k c).length ≤ 1000000 := by
  rw [length_putB]
  unfold bkOf at hx
  cases hc : kvLook B k with
  | some y => simpa using hf
  | none => rw [hc] at hx; simp at hx

theorem allow_hit_yes {w : World} {p m : Nat} {r b d : Int} {B : List (Key × Bk)} (L : Lim w p m r b d B) (s : ByteArray) (hs : s.size ≤ maxLen) (t : Int) (ht0 : 0 ≤ t) (ht : t ≤ 1099511627776) (x : Bk) (hx : bkOf r b B s.data.toList t = (x, true)) (h1 : 1000 ≤ x.1)  :
    Calls Try.prog 10 #[.pointer (some ⟨p, 0, none⟩), .string s, .int .i64 t] w fun e w' => e = .returned (.bool true) ∧ Lim w' p m r b d (putB B s.data.toList (x.1 - 1000, x.2)) ∧ Turn (fun k => k = m) w w' := by
  obtain ⟨hi0, hi1, hi2, hi3⟩ := bkOf_inv L _ t ht0 ht x true hx
  have hb := L.b1
  have HX := Lib.hid hx
  have HL := Lib.hid L
  have hlt := L.lt
  have hltm := L.ltm
  clear hx L
  go_enter Try.func10, Try.ntmps10
  go_wp2_with (first | (go_at_call 20; refine (may_yes t _ ht0 ht).mono ?_; rintro e w' ⟨rfl, rfl⟩) | fail)
  refine (get_any HL.out s hs t ht x true HX.out).mono ?_
  rintro e w1 ⟨rfl, hb1⟩
  have L1 := HL.out.below hb1
  have k2 := L1.c2
  have hl1 := L1.lt
  have HL1 := Lib.hid L1
  have HB := Lib.hid hb1
  clear hb1 L1
  go_wp2
  refine still_tail_drew 6 (by kernel_rfl) (by kernel_rfl) ?_
  simp only [List.take_succ_cons, List.take_zero, List.drop_succ_cons, List.drop_zero]
  repeat still_step
  refine wpStill_nil ?_
  refine store_bk _ rfl _ _ _ rfl m B rfl (by exact (HL1.out.below (((Below.refl _ _).alloc (Nat.le_refl _) _).drew)).own) HL1.out.few s hs rfl (x.1 - 1000) x.2 rfl ?_
  intro w2 ho2 ht2
  have LF := (HL1.out.below (((Below.refl _ _).alloc (Nat.le_refl _) _).drew)).stored ho2 ht2 (few_hit HX.out HL1.out.few) (putB_inv HL1.out.inv (by simp only; omega))
  have TF := (Turn.of_below (S := fun k => k = m) HB.out).trans ((Turn.of_below (S := fun k => k = m) (((Below.refl w1.heap.size w1).alloc (Nat.le_refl _) _).drew)).trans (Turn.grown (S := fun k => k = m) ht2.grown (fun k e _ => by cases e; rfl)))
  have HF := Lib.hid LF
  have HT := Lib.hid TF
  clear LF TF ho2 ht2
  go_wp2
  go_ret
  exact ⟨rfl, HF.out, HT.out⟩

theorem allow_hit_no {w : World} {p m : Nat} {r b d : Int} {B : List (Key × Bk)} (L : Lim w p m r b d B) (hd : 0 ≤ d) (hd1 : d ≤ 1000000000) (s : ByteArray) (hs : s.size ≤ maxLen) (t : Int) (ht0 : 0 ≤ t) (ht : t ≤ 1099511627776) (x : Bk) (hx : bkOf r b B s.data.toList t = (x, true)) (h1 : x.1 < 1000) :
    Calls Try.prog 10 #[.pointer (some ⟨p, 0, none⟩), .string s, .int .i64 t] w fun e w' => e = .returned (.bool false) ∧ Lim w' p m r b (d + 1) (putB B s.data.toList x) ∧ Turn (fun k => k = p ∨ k = m) w w' := by
  have hdec : decide (1000 ≤ x.1) = false := by simp; omega
  obtain ⟨hi0, hi1, hi2, hi3⟩ := bkOf_inv L _ t ht0 ht x true hx
  have hb := L.b1
  have HX := Lib.hid hx
  have HL := Lib.hid L
  have hlt := L.lt
  have hltm := L.ltm
  clear hx L
  go_enter Try.func10, Try.ntmps10
  go_wp2_with (first | (go_at_call 20; refine (may_yes t _ ht0 ht).mono ?_; rintro e w' ⟨rfl, rfl⟩) | fail)
  refine (get_any HL.out s hs t ht x true HX.out).mono ?_
  rintro e w1 ⟨rfl, hb1⟩
  have L1 := HL.out.below hb1
  have k2 := L1.c2
  have hl1 := L1.lt
  have HL1 := Lib.hid L1
  have HB := Lib.hid hb1
  clear hb1 L1
  go_wp2
  refine still_tail_drew 6 (by kernel_rfl) (by kernel_rfl) ?_
  simp only [List.take_succ_cons, List.take_zero, List.drop_succ_cons, List.drop_zero]
  repeat still_step
  refine wpStill_nil ?_
  refine store_bk _ rfl _ _ _ rfl m B rfl (by exact (HL1.out.below (((Below.refl _ _).alloc (Nat.le_refl _) _).drew)).own) HL1.out.few s hs rfl x.1 x.2 rfl ?_
  intro w2 ho2 ht2
  have LF := (HL1.out.below (((Below.refl _ _).alloc (Nat.le_refl _) _).drew)).stored ho2 ht2 (few_hit HX.out HL1.out.few) (putB_inv HL1.out.inv (by simp only; omega))
  have TF := (Turn.of_below (S := fun k => k = m) HB.out).trans ((Turn.of_below (S := fun k => k = m) (((Below.refl w1.heap.size w1).alloc (Nat.le_refl _) _).drew)).trans (Turn.grown (S := fun k => k = m) ht2.grown (fun k e _ => by cases e; rfl)))
  have HF := Lib.hid LF
  have HT := Lib.hid TF
  clear LF TF ho2 ht2
  go_wp2_with (first
    | (go_at_call 21; refine (deny_any HF.out hd hd1).mono ?_; rintro e w' ⟨rfl, rfl⟩)
    | fail)
  go_ret
  exact ⟨rfl, HF.out.denied, (HT.out.mono (fun k _ e => .inr e)).trans (turn_denied _ p _ _ (.inl rfl))⟩

set_option maxRecDepth 100000 in
theorem allow_miss_few {w : World} {p m : Nat} {r b d : Int} {B : List (Key × Bk)} (L : Lim w p m r b d B) (s : ByteArray) (hs : s.size ≤ maxLen) (t : Int) (ht0 : 0 ≤ t) (ht : t ≤ 1099511627776) (x : Bk) (hx : bkOf r b B s.data.toList t = (x, false)) (h1 : 1000 ≤ x.1) (hlen : B.length < 256) :
    Calls Try.prog 10 #[.pointer (some ⟨p, 0, none⟩), .string s, .int .i64 t] w fun e w' => e = .returned (.bool true) ∧ Lim w' p m r b d (putB B s.data.toList (x.1 - 1000, x.2)) ∧ Turn (fun k => k = m) w w' := by
  obtain ⟨hi0, hi1, hi2, hi3⟩ := bkOf_inv L _ t ht0 ht x false hx
  have hb := L.b1
  have HX := Lib.hid hx
  have HL := Lib.hid L
  have hlt := L.lt
  have hltm := L.ltm
  clear hx L
  go_enter Try.func10, Try.ntmps10
  go_wp2_with (first | (go_at_call 20; refine (may_yes t _ ht0 ht).mono ?_; rintro e w' ⟨rfl, rfl⟩) | fail)
  refine (get_any HL.out s hs t ht x false HX.out).mono ?_
  rintro e w1 ⟨rfl, hb1⟩
  have L1 := HL.out.below hb1
  have k2 := L1.c2
  have hl1 := L1.lt
  have HL1 := Lib.hid L1
  have HB := Lib.hid hb1
  clear hb1 L1
  obtain ⟨D, ho, hr⟩ := HL1.out.own
  have hrun := (ho.alloc (.cells #[.int .i64 x.1, .int .i64 x.2] 62)).len Try.underlying57 3
  rw [hr.size] at hrun
  clear ho hr
  go_wp2
  clear hrun
  refine still_tail_drew 6 (by kernel_rfl) (by kernel_rfl) ?_
  simp only [List.take_succ_cons, List.take_zero, List.drop_succ_cons, List.drop_zero]
  repeat still_step
  refine wpStill_nil ?_
  refine store_bk _ rfl _ _ _ rfl m B rfl (by exact (HL1.out.below (((Below.refl _ _).alloc (Nat.le_refl _) _).drew)).own) HL1.out.few s hs rfl (x.1 - 1000) x.2 rfl ?_
  intro w2 ho2 ht2
  have LF := (HL1.out.below (((Below.refl _ _).alloc (Nat.le_refl _) _).drew)).stored ho2 ht2 (by rw [length_putB]; split <;> omega) (putB_inv HL1.out.inv (by simp only; omega))
  have TF := (Turn.of_below (S := fun k => k = m) HB.out).trans ((Turn.of_below (S := fun k => k = m) (((Below.refl w1.heap.size w1).alloc (Nat.le_refl _) _).drew)).trans (Turn.grown (S := fun k => k = m) ht2.grown (fun k e _ => by cases e; rfl)))
  have HF := Lib.hid LF
  have HT := Lib.hid TF
  clear LF TF ho2 ht2
  go_wp2
  go_ret
  exact ⟨rfl, HF.out, HT.out⟩

end Go.Proofs.Ytgphhjghodhodaa
