/- The walk of Forget. -/
import Derived.Test.YtgphhjghodhodaaLimC
namespace Go.Proofs.Ytgphhjghodhodaa
open Go.RowKit Go.Maps Go.WideMaps Go.Proofs.YtgphhjghodhodaaMp
set_option linter.unusedVariables false

theorem owns_tight {w : World} {P : Program} {k : TypeId} {R : Value → Option (DataW Unit × List MemPlace)} {b n : Nat} {D : DataW Unit} (h : w.ownsMap P k R b n D) {c : Nat} (hc : Maps.size D = c) : w.ownsMap P k R b c D := by
  obtain ⟨es, clock, hb, F, hs, rfl⟩ := h
  refine ⟨es, clock, hb, F, ?_, rfl⟩
  rw [← hc]
  simp [Maps.size, length_sorted]

theorem key9_inv {key : Value} {kl : Lit} (h : keyOf Try.prog 9 key = some kl) : ∃ s : ByteArray, key = .string s ∧ kl = klit s.data.toList ∧ s.size ≤ maxLen := by
  cases key <;> simp [keyOf, Try.underlying9, mapKey] at h
  obtain ⟨hs, rfl⟩ := h
  exact ⟨_, rfl, rfl, hs⟩

theorem Lim.ofRange {w wr : World} {p m : Nat} {r b d : Int} {B B' : List (Key × Bk)} (L : Lim w p m r b d B) (t : Turn (fun k => k = m) w wr) {n : Nat} {D : DataW Unit} (ho : wr.ownsMap Try.prog 9 bkElem m n D) (hr : MRep klit bdat D B') (hs : B'.Sublist B) : Lim wr p m r b d B' :=
  ⟨(t.block p L.lt L.ne).trans L.blk, L.ne, ⟨D, owns_tight ho hr.size, hr⟩, L.r0, L.r1, L.b0, L.b1, Nat.le_trans hs.length_le L.few, fun x hx => L.inv x (hs.subset hx)⟩

theorem rest_sub {κ α : Type} [DecidableEq κ] (B : List (κ × α)) (keep : κ × α → Bool) (left : Lit → Bool) (lit : κ → Lit) : (rest B keep left lit).Sublist B := List.filter_sublist

section
variable {ops : Array Oper} {rs : List Oper} {o : Oper} {a : Act} {Q : Exit → Act → World → Prop}
theorem next_bk (w : World) (hg : o.guard = none) (it : Operand) (hop : o.op = Op.next it false) (b r n : Nat) (D : DataW Unit) (left : Lit → Bool) (cnt : Nat) (hit : a.eval it = .pointer (some ⟨r, 0, none⟩)) (h : w.ranges Try.prog 9 bkElem b r n D left cnt)
    (hDone : (∀ kl, left kl = false) → wpList Try.prog ops Q rs (a.put o.dst (.tuple #[.bool false])) w)
    (hMore : ∀ (s : ByteArray) (c : Bk) (w' : World) (cnt' : Nat), s.size ≤ maxLen → left (klit s.data.toList) = true → (∀ zd, D.atKey (klit s.data.toList) zd = bdat c) → w'.ranges Try.prog 9 bkElem b r n D (fun z => left z && !z.sameKey (klit s.data.toList)) cnt' → cnt' < cnt →
      w.grownBy w' (some r) → w'.heap.size = w.heap.size → (Instr.entry (.pointer (some ⟨r, 0, none⟩))).run Try.prog w' = .ok (.tuple #[.string s, .agg #[.int .i64 c.1, .int .i64 c.2]]) w' →
      wpList Try.prog ops Q rs (a.put o.dst (.tuple #[.bool true, .string s, .agg #[.int .i64 c.1, .int .i64 c.2]])) w') :
    wpList Try.prog ops Q (o :: rs) a w :=
  wpList_next_ranges w hg it hop 9 law9 bkElem Value.string (fun c : Bk => .agg #[.int .i64 c.1, .int .i64 c.2]) (fun key kl hkey => by obtain ⟨s, rfl, _⟩ := key9_inv hkey; exact ⟨s, rfl⟩) (fun v y hv => by obtain ⟨c, rfl, _⟩ := bkElem_inv hv; exact ⟨c, rfl⟩)
    b r n D left cnt hit h (fun _ => hDone) (fun s c kl y w' cnt' hkey hlk hv hat hrg hlt hgr hsz hen => by
      obtain ⟨s', es, rfl, hs⟩ := key9_inv hkey
      cases es
      obtain ⟨c', ec, rfl⟩ := bkElem_inv hv
      have hcc : c' = c := by
        injection ec with ec
        have := congrArg Array.toList ec
        simp only [List.cons.injEq, Value.int.injEq] at this
        exact Prod.ext this.1.2.symm this.2.1.2.symm
      subst hcc
      exact hMore s c' w' cnt' hs hlk hat hrg hlt hgr hsz hen)
end

def keepB (r b t : Int) (x : Key × Bk) : Bool := decide ((bkAt r b x.2 t).1 < 1000 * b)
def forgetM (r b : Int) (B : List (Key × Bk)) (t : Int) : List (Key × Bk) := B.filter (keepB r b t)

theorem below_none {a b : World} (h : Below a.heap.size a b) : a.grownBy b none := ⟨h.os, h.tape, h.output, h.size, fun i hi _ => h.block i hi⟩

theorem look_of_at {D : DataW Unit} {B : List (Key × Bk)} (hr : MRep klit bdat D B) {k : Key} {c : Bk} (hat : ∀ zd, D.atKey (klit k) zd = bdat c) : kvLook B k = some c := by
  cases hk : kvLook B k with
  | none =>
    have h1 := atKey_of_not_has (hr.miss k hk) (bdat (c.1 + 1, 0))
    rw [hat] at h1
    have := bdat_inj h1
    have := congrArg Prod.fst this
    simp at this
    omega
  | some c' =>
    have h1 := (hr.hit k c' hk).2 (bdat c)
    rw [hat] at h1
    rw [bdat_inj h1]

theorem look_rest {B : List (Key × Bk)} {keep : Key × Bk → Bool} {left : Lit → Bool} {k : Key} {c : Bk} (hB : NoTwice B) (h : kvLook (rest B keep left klit) k = some c) : kvLook B k = some c := by
  unfold rest at h
  rw [kvLook_filter_key hB] at h
  cases hk : kvLook B k with
  | none => rw [hk] at h; simp at h
  | some c' =>
    rw [hk] at h
    simp only [Option.bind_some] at h
    split at h
    · exact h
    · cases h

theorem ret_int {k : IntKind} {a b : Int} (h : a = b) : Ending.returned (.int k a) = .returned (.int k b) := by rw [h]

theorem forget_bad (p : Nat) (t : Int) (h : ¬ (0 ≤ t ∧ t ≤ 1099511627776)) (w : World) :
    Calls Try.prog 11 #[.pointer (some ⟨p, 0, none⟩), .int .i64 t] w fun e w' => e = .returned (.int .i64 0) ∧ w = w' := by
  have HH := Lib.hid h
  clear h
  go_enter Try.func11, Try.ntmps11
  go_wp2_with (first | (go_at_call 20; refine (may_not t _ HH.out).mono ?_; rintro e w' ⟨rfl, rfl⟩) | fail)
  go_ret
  exact ⟨rfl, rfl⟩

set_option maxRecDepth 100000 in
theorem forget_any {w : World} {p m : Nat} {r b d : Int} {B : List (Key × Bk)} (L : Lim w p m r b d B) (t : Int) (ht0 : 0 ≤ t) (ht : t ≤ 1099511627776) :
    Calls Try.prog 11 #[.pointer (some ⟨p, 0, none⟩), .int .i64 t] w fun e w' => e = .returned (.int .i64 ((B.length : Int) - ((forgetM r b B t).length : Int))) ∧ Lim w' p m r b d (forgetM r b B t) ∧ Turn (fun k => k = m) w w' := by
  have hlt := L.lt
  have hltm := L.ltm
  have hne := L.ne
  have c2 := L.c2
  have HL := Lib.hid L
  obtain ⟨D, ho, hr⟩ := L.own
  have HO := Lib.hid ho
  have HR := Lib.hid hr
  have HS := Lib.hid hr.size
  clear L ho hr
  go_enter Try.func11, Try.ntmps11
  go_wp2_with (first
    | (go_at_call 20; refine (may_yes t _ ht0 ht).mono ?_; rintro e w' ⟨rfl, rfl⟩)
    | (at_len; refine wpList_len_own _ rfl _ 57 rfl 9 62 Try.underlying57 bkElem m B.length D rfl HO.out ?_)
    | (at_range; refine wpList_range_own _ rfl _ 57 rfl 9 62 law9 Try.underlying57 bkElem m B.length D rfl HO.out ?_; intro w0 hrg0 hg0 hs0)
    | fail)
  go_frame
  have HG0 := Lib.hid hrg0
  have HT0 := Lib.hid (Turn.grown (S := fun k => k = m) hg0 (fun k e _ => by cases e))
  clear hrg0 hg0
  go_loopw [6] (fun _ wr => ∃ (left : Lit → Bool) (cnt : Nat) (D1 : DataW Unit), wr.ranges Try.prog 9 bkElem m w.heap.size B.length D1 left cnt ∧ MRep klit bdat D1 (rest B (keepB r b t) left klit) ∧ Turn (fun k => k = m) w wr)
    (fun _ wr => wr.rangeLeft m w.heap.size)
  case atStart => exact ⟨_, _, D, HG0.out, by rw [rest_start HR.out]; exact HR.out, HT0.out⟩
  case round =>
    obtain ⟨left, cnt, D1, hrg, hr1, ht1⟩ := hrel
    have L1 : Lim wr p m r b d (rest B (keepB r b t) left klit) := HL.out.ofRange ht1 hrg.owns hr1 (rest_sub _ _ _ _)
    have k2 := L1.c2
    have hsz : w.heap.size < wr.heap.size := hrg.lt
    have HL1 := Lib.hid L1
    have HR1 := Lib.hid hr1
    have HT1 := Lib.hid ht1
    have HG := Lib.hid hrg
    clear L1 hr1 ht1 hrg
    go_wp2_with (first
      | (at_next; refine next_bk _ rfl _ rfl m w.heap.size B.length D1 left cnt rfl HG.out ?_ ?_)
      | fail)
    · intro hl0
      have he : rest B (keepB r b t) left klit = forgetM r b B t := rest_end B (keepB r b t) hl0
      have HE := Lib.hid he
      clear he
      go_wp2_with (first
        | (at_len; refine wpList_len_own _ rfl _ 57 rfl 9 62 Try.underlying57 bkElem m B.length D1 rfl HG.out.owns ?_)
        | fail)
      go_ret
      have hL : Lim wr p m r b d (forgetM r b B t) := by rw [← HE.out]; exact HL1.out
      have h1 : (size D1 : Int) = ((forgetM r b B t).length : Int) := by rw [HR1.out.size, HE.out]
      have h2 := hL.few
      have h3 := HL.out.few
      have h4 := HS.out
      refine ⟨?_, hL, HT1.out⟩
      rw [← h1, ← h4]
      exact ret_int (show wrap64 ((size D : Int) - (size D1 : Int)) = (size D : Int) - (size D1 : Int) by unfold wrap64; omega)
    · intro s h a w1 cnt1 hs hlk hat hrg1 hlt1 hg1 hs1 hen
      have htw : Turn (fun k => k = m) w w1 := ⟨hg1.os.trans HT1.out.os, hg1.tape.trans HT1.out.tape, hg1.output.trans HT1.out.output, Nat.le_trans HT1.out.size hg1.size,
        fun k hk hn => (hg1.block k (Nat.lt_of_lt_of_le hk HT1.out.size) (by simp; omega)).trans (HT1.out.block k hk hn)⟩
      have hlook : kvLook (rest B (keepB r b t) left klit) s.data.toList = some (h, a) := look_of_at HR1.out hat
      have hlB := look_rest HR.out.once hlook
      have hin := HL.out.inv _ (kvLook_some_mem hlB)
      have L1 : Lim w1 p m r b d (rest B (keepB r b t) left klit) := HL.out.ofRange htw hrg1.owns HR1.out (rest_sub _ _ _ _)
      have HLK := Lib.hid hlB
      have HL2 := Lib.hid L1
      have HG1 := Lib.hid hrg1
      have HTW := Lib.hid htw
      have HHS := Lib.hid hs1
      have k2 := L1.c2
      have hmm := L1.ltm
      have hpp := L1.lt
      have hcnt : cnt1 < cnt := hlt1
      clear L1 hrg1 htw hs1 hat hlk hlook hlB hg1 hlt1
      simp only at hin
      obtain ⟨hi0, hi1, hi2, hi3⟩ := hin
      go_wp2_with (first
        | fail)
      have L3 : Lim (w1.alloc (.cells #[.int .i64 h, .int .i64 a] 62)) p m r b d (rest B (keepB r b t) left klit) := HL2.out.below ((Below.refl _ _).alloc (Nat.le_refl _) _)
      refine (later_any L3 (h, a) t ⟨hi0, hi1, hi2, hi3⟩ ht).mono ?_
      rintro e w2 ⟨rfl, hb2⟩
      have L4 := L3.below hb2
      have hg2 : w1.grownBy w2 none := (World.grownBy_alloc w1 _ none).andThen (below_none hb2) (fun j hj => by cases hj)
      have HG2 := Lib.hid (HG1.out.kept hg2 (by simp) (by simp))
      have HT2 := Lib.hid (HTW.out.trans (Turn.grown (S := fun k => k = m) hg2 (fun k e _ => by cases e)))
      have k2' := L4.c2
      have k1' := L4.c1
      have hb0 := L4.b0
      have hb1 := L4.b1
      have HL4 := Lib.hid L4
      obtain ⟨x1, x2, hx⟩ : ∃ x1 x2, bkAt r b (h, a) t = (x1, x2) := ⟨_, _, rfl⟩
      have HX := Lib.hid hx
      rw [hx]
      have hfd : ∀ w : World, (Instr.field 62 (.agg #[.int .i64 x1, .int .i64 x2]) 0).run Try.prog w = .ok (.int .i64 x1) w := fun _ => by kernel_rfl
      clear L3 L4 hb2 hg2 hx
      by_cases hfull : 1000 * b ≤ x1
      · have hkp : keepB r b t (s.data.toList, (h, a)) = false := by unfold keepB; simp only; rw [HX.out]; simp; omega
        have HK := Lib.hid hkp
        clear hkp
        go_wp2_with (first
          | (go_at_call 24; refine (full_any p b _ (by assumption) hb0 hb1).mono ?_; rintro e w' ⟨rfl, rfl⟩)
          | (at_delete; refine wpList_delete_ranges _ rfl _ _ 57 9 rfl 62 law9 Try.underlying57 bkElem m w.heap.size B.length _ _ _ rfl HG2.out _ _ rfl (keyOf_string_mk Try.underlying9 hs) ?_; intro w3 cnt3 hrg3 hle3 hturn3; go_frame)
          | fail)
        replace hrg3 : w3.ranges Try.prog 9 bkElem m w.heap.size B.length (D1.del (klit s.data.toList)) (fun z => (left z && !z.sameKey (klit s.data.toList)) && !z.sameKey (klit s.data.toList)) cnt3 := hrg3
        rw [strike_twice left (klit s.data.toList)] at hrg3
        have hr3 : MRep klit bdat (D1.del (klit s.data.toList)) (rest B (keepB r b t) (fun z => left z && !z.sameKey (klit s.data.toList)) klit) := by
          rw [rest_struck B HR.out.once kway (keepB r b t) HLK.out HK.out]
          exact HR1.out.del kway s.data.toList
        have ht3 := HT2.out.trans (Turn.grown (S := fun k => k = m) hturn3.grown (fun k e _ => by cases e; rfl))
        go_roundw
        case rel => exact ⟨_, cnt3, _, hrg3, hr3, ht3⟩
        case measure => rw [hrg3.left_eq, HG.out.left_eq]; omega
      · have hkp : keepB r b t (s.data.toList, (h, a)) = true := by unfold keepB; simp only; rw [HX.out]; simp; omega
        have HK := Lib.hid hkp
        clear hkp
        go_wp2_with (first
          | (go_at_call 24; refine (full_any p b _ (by assumption) hb0 hb1).mono ?_; rintro e w' ⟨rfl, rfl⟩)
          | fail)
        have hr3 : MRep klit bdat D1 (rest B (keepB r b t) (fun z => left z && !z.sameKey (klit s.data.toList)) klit) := by
          rw [rest_stays B HR.out.once kway (keepB r b t) HLK.out HK.out]
          exact HR1.out
        go_roundw
        case rel => exact ⟨_, cnt1, _, HG2.out, hr3, HT2.out⟩
        case measure => rw [HG2.out.left_eq, HG.out.left_eq]; omega
end Go.Proofs.Ytgphhjghodhodaa
