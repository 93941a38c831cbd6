import Derived.Test.YtcdeikhfmllkdaaGreatDoorJe
import Derived.Test.YtcdeikhfmllkdaaGreatDoorJc
import Derived.Test.YtcdeikhfmllkdaaGreatDoorJd
import Derived.StillTailTactics
import Derived.Deep.DeepCutAuto
/- json's writing as a plain function. -/
namespace Go.Proofs.YtcdeikhfmllkdaaGreatDoor
open Go.RowKit
set_option linter.unusedVariables false

mutual
/-- The text of the value i, and which one is next. -/
def valW : Nat → List Val → Nat → Bytes × Nat
  | 0, _, i => ([], i)
  | f + 1, l, i => match l[i]? with
    | none => ([], i)
    | some v =>
      if v.kind = 0 then ([110, 117, 108, 108], i + 1)
      else if v.kind = 1 then ([102, 97, 108, 115, 101], i + 1)
      else if v.kind = 2 then ([116, 114, 117, 101], i + 1)
      else if v.kind = 3 then (v.text, i + 1)
      else if v.kind = 4 then (quoteM v.text, i + 1)
      else if v.kind = 5 then ([91] ++ (loopW f l (i + 1) i false true).1 ++ [93], (loopW f l (i + 1) i false true).2)
      else if v.kind = 6 then ([123] ++ (loopW f l (i + 1) i true true).1 ++ [125], (loopW f l (i + 1) i true true).2)
      else ([], i + 1)
/-- What stands in the value i, from the value k on. -/
def loopW : Nat → List Val → Nat → Nat → Bool → Bool → Bytes × Nat
  | 0, _, k, _, _, _ => ([], k)
  | f + 1, l, k, i, obj, first => match l[k]? with
    | none => ([], k)
    | some v =>
      if v.parent = (i : Int) then
        ((if first then [] else [44]) ++ (if obj then quoteM v.name ++ [58] else []) ++ (valW f l k).1 ++ (loopW f l (valW f l k).2 i obj false).1, (loopW f l (valW f l k).2 i obj false).2)
      else ([], k)
end
/-- The text of a list. -/
def textM (l : List Val) : Bytes := (valW (2 * l.length + 1) l 0).1

/-- The room that values may want. -/
def wt (l : List Val) : Nat := (l.map (fun v => 6 * v.name.length + 6 * v.text.length + 20)).sum
theorem wt_drop {l : List Val} {i : Nat} {v : Val} (h : l[i]? = some v) : wt (l.drop i) = 6 * v.name.length + 6 * v.text.length + 20 + wt (l.drop (i + 1)) := by
  have hlt := (List.getElem?_eq_some_iff.1 h).1
  have hv := (List.getElem?_eq_some_iff.1 h).2
  rw [List.drop_eq_getElem_cons hlt, hv]
  simp [wt]

theorem quoteM_len (s : Bytes) : (quoteM s).length ≤ 6 * s.length + 2 := by
  have := quoteBs_len s
  simp only [quoteM, List.length_append, List.length_cons, List.length_nil]
  omega

theorem writes_len (f : Nat) : (∀ l i v, l[i]? = some v → 2 * (l.length - i) < f → i < (valW f l i).2 ∧ (valW f l i).2 ≤ l.length ∧ (valW f l i).1.length + wt (l.drop (valW f l i).2) + (6 * v.name.length + 4) ≤ wt (l.drop i)) ∧
    (∀ l k i o fi, k ≤ l.length → 2 * (l.length - k) + 1 < f → k ≤ (loopW f l k i o fi).2 ∧ (loopW f l k i o fi).2 ≤ l.length ∧ (loopW f l k i o fi).1.length + wt (l.drop (loopW f l k i o fi).2) ≤ wt (l.drop k)) := by
  induction f with
  | zero => exact ⟨fun l i v _ h => by omega, fun l k i o fi _ h => by omega⟩
  | succ f ih =>
    obtain ⟨ih1, ih2⟩ := ih
    refine ⟨fun l i v hv hf => ?_, fun l k i o fi h hf => ?_⟩
    · have hlt := (List.getElem?_eq_some_iff.1 hv).1
      have hw := wt_drop hv
      obtain ⟨a1, a2, a3⟩ := ih2 l (i + 1) i false true (by omega) (by omega)
      obtain ⟨b1, b2, b3⟩ := ih2 l (i + 1) i true true (by omega) (by omega)
      have hq := quoteM_len v.text
      simp only [valW, hv]
      repeat' split
      all_goals
        refine ⟨by simp only; omega, by simp only; omega, ?_⟩
        simp only [List.length_append, List.length_cons, List.length_nil]
        omega
    · cases hv : l[k]? with
      | none => simp [loopW, hv]; exact h
      | some v =>
        have hlt := (List.getElem?_eq_some_iff.1 hv).1
        simp only [loopW, hv]
        split
        · obtain ⟨h1, h2, h3⟩ := ih1 l k v hv (by omega)
          obtain ⟨g1, g2, g3⟩ := ih2 l (valW f l k).2 i o false h2 (by omega)
          have hq := quoteM_len v.name
          refine ⟨by simp only; omega, by simp only; omega, ?_⟩
          have h4 : (if fi = true then ([] : Bytes) else [44]).length ≤ 1 := by split <;> simp
          have h5 : (if o = true then quoteM v.name ++ [58] else ([] : Bytes)).length ≤ 6 * v.name.length + 3 := by split <;> simp <;> omega
          simp only [List.length_append]
          omega
        · simp; exact h
end Go.Proofs.YtcdeikhfmllkdaaGreatDoor

/- json's writer: the walk of value. -/
namespace Go.Proofs.YtcdeikhfmllkdaaGreatDoor
open Go.RowKit
set_option linter.unusedVariables false

theorem Wb.alloc {w : World} {b B T : Nat} {rest : List Value} {l : Bytes} (h : Wb w b B T rest l) (o : Obj) : Wb (w.alloc o) b B T rest l := by
  obtain ⟨p, v, hp, h⟩ := h
  exact ⟨p, v, hp, h.base, (heap_alloc_old _ _ h.lt).trans h.row, h.own.alloc o, h.ne⟩
theorem Wb.drewN {w : World} {b B T : Nat} {rest : List Value} {l : Bytes} (h : Wb w b B T rest l) (k : Nat) : Wb (w.drewN k) b B T rest l := by
  obtain ⟨p, v, hp, h⟩ := h
  exact ⟨p, v, hp, h.base, h.row, ownF_kept h.own (fun k hk => rfl), h.ne⟩

/-- Where a writer stands: w is the world when it began. -/
structure Wr (w wr : World) (b : Nat) (V : Value) (l : List Val) (n : Nat) (out : Bytes) : Prop where
  wb : Wb wr b w.heap.size 124 [V, .int .i64 n] out
  below : Below w.heap.size w wr
  lst : Lst w V l
theorem Wr.cells {w wr : World} {b : Nat} {V : Value} {l : List Val} {n : Nat} {out : Bytes} (W : Wr w wr b V l n out) :
    wr.cell? ⟨b, 2, none⟩ = some V ∧ wr.cell? ⟨b, 3, none⟩ = some (.int .i64 n) ∧ wr.frozen? ⟨b, 3, none⟩ = false ∧ b < wr.heap.size := by
  obtain ⟨p, v, hp, h⟩ := W.wb
  have c := cells_of h.row
  exact ⟨(c 2).1, (c 3).1, (c 3).2, h.lt⟩

def ValHyp (f : Nat) : Prop := ∀ (w wr : World) (b : Nat) (V : Value) (l : List Val) (n : Nat) (out : Bytes) (M : Nat), Wr w wr b V l n out → n < l.length → l.length ≤ 1000000 → 2 * (l.length - n) < f → (∀ v, l[n]? = some v → out.length + wt (l.drop n) ≤ M + (6 * v.name.length + 4)) → M ≤ 140737488350000 →
  Calls Tryz.prog 74 #[.pointer (some ⟨b, 0, none⟩)] wr fun e w' => e = .returned (.tuple #[]) ∧ Wr w w' b V l (valW f l n).2 (out ++ (valW f l n).1)
def ManyWHyp (f : Nat) : Prop := ∀ (w wr : World) (b : Nat) (V : Value) (l : List Val) (n i : Nat) (out : Bytes) (M : Nat) (c d : UInt8), (c = 91 ∧ d = 93 ∨ c = 123 ∧ d = 125) → Wr w wr b V l n out → n ≤ l.length → l.length ≤ 1000000 → 2 * (l.length - n) + 1 < f → out.length + 2 + wt (l.drop n) ≤ M → M ≤ 140737488350000 →
  Calls Tryz.prog 119 #[.pointer (some ⟨b, 0, none⟩), .int .i64 i, .int .u8 (c.toNat : Int), .int .u8 (d.toNat : Int)] wr fun e w' => e = .returned (.tuple #[]) ∧ Wr w w' b V l (loopW f l n i (decide (c = 123)) true).2 (out ++ ([c] ++ (loopW f l n i (decide (c = 123)) true).1 ++ [d]))

theorem still_tail_drew {P : Program} {id : Nat} {Q : Exit → Act → World → Prop} {a : Act} {w : World} {l : List Oper} (n : Nat) (hm : P.follows .mixedOrders = true) (hB : Region.lexTailB .any l.toArray n = true)
    (h : wpStill P l.toArray w.drew (fun a' => wpList P l.toArray Q (l.drop n) a' w.drew) (l.take n) a) : (Code.region id l.toArray true).wp P Q a w :=
  wp_region_still_tail n hm hB h

set_option maxRecDepth 100000 in
set_option maxHeartbeats 4000000 in
theorem value_w {f : Nat} (hm : Hid (ManyWHyp f)) {w wr : World} {b : Nat} {V : Value} {l : List Val} {n : Nat} {out : Bytes} {M : Nat} (W : Wr w wr b V l n out) (hn : n < l.length) (hl : l.length ≤ 1000000) (hf : 2 * (l.length - n) < f + 1) (hM' : ∀ v, l[n]? = some v → out.length + wt (l.drop n) ≤ M + (6 * v.name.length + 4)) (hM2 : M ≤ 140737488350000) :
    Calls Tryz.prog 74 #[.pointer (some ⟨b, 0, none⟩)] wr fun e w' => e = .returned (.tuple #[]) ∧ Wr w w' b V l (valW (f + 1) l n).2 (out ++ (valW (f + 1) l n).1) := by
  obtain ⟨v, hv⟩ : ∃ v, l[n]? = some v := ⟨_, List.getElem?_eq_getElem hn⟩
  have hw := wt_drop hv
  have hM := hM' v hv
  clear hM'
  obtain ⟨a, cap, rfl, k0, k1, k2, k3⟩ := (W.lst.below W.below).at hv
  have hab : (a.add (n * 4)).block ≠ b := by
    obtain ⟨a', cap', e, j0, -⟩ := W.lst.at hv
    simp only [Value.slice.injEq, Option.some.injEq] at e
    obtain ⟨rfl, -, -⟩ := e
    have h1 := World.block_lt_of_cell? w _ j0
    obtain ⟨_, _, _, h2⟩ := W.wb
    have := h2.base
    omega
  have hbs : ∀ x, (wr.setCell ⟨b, 3, none⟩ x).heap[(a.add (n * 4)).block]? = wr.heap[(a.add (n * 4)).block]? := fun x => Below.heap_setCell _ _ _ _ hab
  have s0 := fun x => (World.cell?_of_block (a := a.add (n * 4)) (hbs x)).trans k0
  have s1 := fun x => (World.cell?_of_block (a := ⟨(a.add (n * 4)).block, (a.add (n * 4)).off + 1, none⟩) (hbs x)).trans k1
  have s2 := fun x => (World.cell?_of_block (a := ⟨(a.add (n * 4)).block, (a.add (n * 4)).off + 2, none⟩) (hbs x)).trans k2
  have s3 := fun x => (World.cell?_of_block (a := ⟨(a.add (n * 4)).block, (a.add (n * 4)).off + 3, none⟩) (hbs x)).trans k3
  clear hbs k0 k1 k2 k3
  obtain ⟨c2, c3, f3, hb⟩ := W.cells
  have b0 : (0 : Int) ≤ (n : Int) := by omega
  have b1 : (n : Int) < (l.length : Int) := by omega
  have hvw : valW (f + 1) l n = (if v.kind = 0 then ([110, 117, 108, 108], n + 1) else if v.kind = 1 then ([102, 97, 108, 115, 101], n + 1) else if v.kind = 2 then ([116, 114, 117, 101], n + 1) else if v.kind = 3 then (v.text, n + 1) else if v.kind = 4 then (quoteM v.text, n + 1)
      else if v.kind = 5 then ([91] ++ (loopW f l (n + 1) n false true).1 ++ [93], (loopW f l (n + 1) n false true).2) else if v.kind = 6 then ([123] ++ (loopW f l (n + 1) n true true).1 ++ [125], (loopW f l (n + 1) n true true).2) else ([], n + 1)) := by simp only [valW, hv]
  rw [hvw]
  clear hvw
  have HW := Lib.hid W
  have HV := Lib.hid hv
  clear W hv
  have hbase : w.heap.size ≤ b := by obtain ⟨_, _, _, h2⟩ := HW.out.wb; exact h2.base
  have hbox : Wb ((wr.setCell ⟨b, 3, none⟩ (.int .i64 ((n : Int) + 1))).alloc (.cells #[.int .i64 v.parent, .int .u8 v.kind, .string (str v.name), .string (str v.text)] 78)) b w.heap.size 124 [.slice (some a) l.length cap, .int .i64 ((n + 1 : Nat) : Int)] out :=
    (HW.out.wb.setRest 1 (.int .i64 ((n : Int) + 1))).alloc _
  have hbelow : Below w.heap.size w ((wr.setCell ⟨b, 3, none⟩ (.int .i64 ((n : Int) + 1))).alloc (.cells #[.int .i64 v.parent, .int .u8 v.kind, .string (str v.name), .string (str v.text)] 78)) :=
    (HW.out.below.setCell (p := ⟨b, 3, none⟩) hbase _).alloc (by have := HW.out.below.size; simpa [World.setCell] using this) _
  have hsz : w.heap.size ≤ ((wr.setCell ⟨b, 3, none⟩ (.int .i64 ((n : Int) + 1))).alloc (.cells #[.int .i64 v.parent, .int .u8 v.kind, .string (str v.name), .string (str v.text)] 78)).heap.size := hbelow.size
  have HB := Lib.hid (And.intro hbox (And.intro hbelow (And.intro hsz (Wr.mk hbox hbelow HW.out.lst))))
  have hfin : ∀ (x : Bytes) (w' : World), Wb w' b w.heap.size 124 [.slice (some a) l.length cap, .int .i64 ((n + 1 : Nat) : Int)] (out ++ x) → Wf w.heap.size b ((wr.setCell ⟨b, 3, none⟩ (.int .i64 ((n : Int) + 1))).alloc (.cells #[.int .i64 v.parent, .int .u8 v.kind, .string (str v.name), .string (str v.text)] 78)) w' →
      Wr w w' b (.slice (some a) l.length cap) l (n + 1) (out ++ x) := fun x w' h1 h2 => ⟨h1, HB.out.2.1.trans h2.below, HW.out.lst⟩
  have HF := Lib.hid hfin
  clear hbox hbelow hsz hfin
  by_cases h0 : v.kind = 0
  · have hd : True := trivial
    have e0 : ((v.kind : Int) == 0) = true := by rw [beq_iff_eq]; omega
    rw [if_pos h0]
    clear h0 hd
    go_enter Tryz.func74, Tryz.ntmps74
    go_wp2_with fail
    refine (writeString_w headB57 rfl HB.out.1 [110, 117, 108, 108] (by simp only [List.length_cons, List.length_nil]; omega) HB.out.2.2.1).mono ?_
    rintro e w2 ⟨⟨v2, rfl⟩, h2, f2⟩
    have H2 := Lib.hid (And.intro h2 f2)
    clear h2 f2
    go_wp2
    exact bodyPost_end (v := .tuple #[]) (by simp [results, Tryz.results74]) rfl ⟨rfl, HF.out _ _ H2.out.1 H2.out.2⟩
  by_cases h1 : v.kind = 1
  · have hd : True := trivial
    have e0 : ((v.kind : Int) == 0) = false := by rw [beq_eq_false_iff_ne]; omega
    have e1 : ((v.kind : Int) == 1) = true := by rw [beq_iff_eq]; omega
    rw [if_neg (show ¬ v.kind = 0 by omega), if_pos h1]
    clear h1 hd
    go_enter Tryz.func74, Tryz.ntmps74
    go_wp2_with fail
    refine (writeString_w headB57 rfl HB.out.1 [102, 97, 108, 115, 101] (by simp only [List.length_cons, List.length_nil]; omega) HB.out.2.2.1).mono ?_
    rintro e w2 ⟨⟨v2, rfl⟩, h2, f2⟩
    have H2 := Lib.hid (And.intro h2 f2)
    clear h2 f2
    go_wp2
    exact bodyPost_end (v := .tuple #[]) (by simp [results, Tryz.results74]) rfl ⟨rfl, HF.out _ _ H2.out.1 H2.out.2⟩
  by_cases h2 : v.kind = 2
  · have hd : True := trivial
    have e0 : ((v.kind : Int) == 0) = false := by rw [beq_eq_false_iff_ne]; omega
    have e1 : ((v.kind : Int) == 1) = false := by rw [beq_eq_false_iff_ne]; omega
    have e2 : ((v.kind : Int) == 2) = true := by rw [beq_iff_eq]; omega
    rw [if_neg (show ¬ v.kind = 0 by omega), if_neg (show ¬ v.kind = 1 by omega), if_pos h2]
    clear h2 hd
    go_enter Tryz.func74, Tryz.ntmps74
    go_wp2_with fail
    refine (writeString_w headB57 rfl HB.out.1 [116, 114, 117, 101] (by simp only [List.length_cons, List.length_nil]; omega) HB.out.2.2.1).mono ?_
    rintro e w2 ⟨⟨v2, rfl⟩, h2, f2⟩
    have H2 := Lib.hid (And.intro h2 f2)
    clear h2 f2
    go_wp2
    exact bodyPost_end (v := .tuple #[]) (by simp [results, Tryz.results74]) rfl ⟨rfl, HF.out _ _ H2.out.1 H2.out.2⟩
  by_cases h3 : v.kind = 3
  · have hd : True := trivial
    have e0 : ((v.kind : Int) == 0) = false := by rw [beq_eq_false_iff_ne]; omega
    have e1 : ((v.kind : Int) == 1) = false := by rw [beq_eq_false_iff_ne]; omega
    have e2 : ((v.kind : Int) == 2) = false := by rw [beq_eq_false_iff_ne]; omega
    have e3 : ((v.kind : Int) == 3) = true := by rw [beq_iff_eq]; omega
    rw [if_neg (show ¬ v.kind = 0 by omega), if_neg (show ¬ v.kind = 1 by omega), if_neg (show ¬ v.kind = 2 by omega), if_pos h3]
    clear h3 hd
    go_enter Tryz.func74, Tryz.ntmps74
    go_wp2_with fail
    refine still_tail_drew 5 (by kernel_rfl) (by kernel_rfl) ?_
    simp only [List.take_succ_cons, List.take_zero, List.drop_succ_cons, List.drop_zero]
    repeat still_step
    refine wpStill_nil ?_
    go_wp2_with fail
    refine (writeString_w headB57 rfl (HB.out.1.drewN 1) v.text (by omega) HB.out.2.2.1).mono ?_
    rintro e w2 ⟨⟨v2, rfl⟩, h2, f2⟩
    have H2 := Lib.hid (And.intro h2 f2)
    clear h2 f2
    go_wp2
    exact bodyPost_end (v := .tuple #[]) (by simp [results, Tryz.results74]) rfl ⟨rfl, HF.out _ _ H2.out.1 ((Wf.drewN _ 1).trans H2.out.2)⟩
  by_cases h4 : v.kind = 4
  · have hd : True := trivial
    have e0 : ((v.kind : Int) == 0) = false := by rw [beq_eq_false_iff_ne]; omega
    have e1 : ((v.kind : Int) == 1) = false := by rw [beq_eq_false_iff_ne]; omega
    have e2 : ((v.kind : Int) == 2) = false := by rw [beq_eq_false_iff_ne]; omega
    have e3 : ((v.kind : Int) == 3) = false := by rw [beq_eq_false_iff_ne]; omega
    have e4 : ((v.kind : Int) == 4) = true := by rw [beq_iff_eq]; omega
    rw [if_neg (show ¬ v.kind = 0 by omega), if_neg (show ¬ v.kind = 1 by omega), if_neg (show ¬ v.kind = 2 by omega), if_neg (show ¬ v.kind = 3 by omega), if_pos h4]
    clear h4 hd
    go_enter Tryz.func74, Tryz.ntmps74
    go_wp2_with fail
    refine still_tail_drew 5 (by kernel_rfl) (by kernel_rfl) ?_
    simp only [List.take_succ_cons, List.take_zero, List.drop_succ_cons, List.drop_zero]
    repeat still_step
    refine wpStill_nil ?_
    go_wp2_with fail
    refine (quote_w headB57 rfl (HB.out.1.drewN 1) v.text (by omega) HB.out.2.2.1).mono ?_
    rintro e w2 ⟨rfl, h2, f2⟩
    have H2 := Lib.hid (And.intro h2 f2)
    clear h2 f2
    go_wp2
    exact bodyPost_end (v := .tuple #[]) (by simp [results, Tryz.results74]) rfl ⟨rfl, HF.out _ _ H2.out.1 ((Wf.drewN _ 1).trans H2.out.2)⟩
  by_cases h5 : v.kind = 5
  · have hd : True := trivial
    have e0 : ((v.kind : Int) == 0) = false := by rw [beq_eq_false_iff_ne]; omega
    have e1 : ((v.kind : Int) == 1) = false := by rw [beq_eq_false_iff_ne]; omega
    have e2 : ((v.kind : Int) == 2) = false := by rw [beq_eq_false_iff_ne]; omega
    have e3 : ((v.kind : Int) == 3) = false := by rw [beq_eq_false_iff_ne]; omega
    have e4 : ((v.kind : Int) == 4) = false := by rw [beq_eq_false_iff_ne]; omega
    have e5 : ((v.kind : Int) == 5) = true := by rw [beq_iff_eq]; omega
    rw [if_neg (show ¬ v.kind = 0 by omega), if_neg (show ¬ v.kind = 1 by omega), if_neg (show ¬ v.kind = 2 by omega), if_neg (show ¬ v.kind = 3 by omega), if_neg (show ¬ v.kind = 4 by omega), if_pos h5]
    clear h5 hd
    go_enter Tryz.func74, Tryz.ntmps74
    go_wp2_with fail
    refine (hm.out w _ b _ l (n + 1) n out M 91 93 (by decide) HB.out.2.2.2 (by omega) hl (by omega) (by omega) hM2).mono ?_
    rintro e w2 ⟨rfl, h2⟩
    have H2 := Lib.hid h2
    clear h2
    go_wp2
    exact bodyPost_end (v := .tuple #[]) (by simp [results, Tryz.results74]) rfl ⟨rfl, by simpa using H2.out⟩
  by_cases h6 : v.kind = 6
  · have hd : True := trivial
    have e0 : ((v.kind : Int) == 0) = false := by rw [beq_eq_false_iff_ne]; omega
    have e1 : ((v.kind : Int) == 1) = false := by rw [beq_eq_false_iff_ne]; omega
    have e2 : ((v.kind : Int) == 2) = false := by rw [beq_eq_false_iff_ne]; omega
    have e3 : ((v.kind : Int) == 3) = false := by rw [beq_eq_false_iff_ne]; omega
    have e4 : ((v.kind : Int) == 4) = false := by rw [beq_eq_false_iff_ne]; omega
    have e5 : ((v.kind : Int) == 5) = false := by rw [beq_eq_false_iff_ne]; omega
    have e6 : ((v.kind : Int) == 6) = true := by rw [beq_iff_eq]; omega
    rw [if_neg (show ¬ v.kind = 0 by omega), if_neg (show ¬ v.kind = 1 by omega), if_neg (show ¬ v.kind = 2 by omega), if_neg (show ¬ v.kind = 3 by omega), if_neg (show ¬ v.kind = 4 by omega), if_neg (show ¬ v.kind = 5 by omega), if_pos h6]
    clear h6 hd
    go_enter Tryz.func74, Tryz.ntmps74
    go_wp2_with fail
    refine (hm.out w _ b _ l (n + 1) n out M 123 125 (by decide) HB.out.2.2.2 (by omega) hl (by omega) (by omega) hM2).mono ?_
    rintro e w2 ⟨rfl, h2⟩
    have H2 := Lib.hid h2
    clear h2
    go_wp2
    exact bodyPost_end (v := .tuple #[]) (by simp [results, Tryz.results74]) rfl ⟨rfl, by simpa using H2.out⟩
  have e0 : ((v.kind : Int) == 0) = false := by rw [beq_eq_false_iff_ne]; omega
  have e1 : ((v.kind : Int) == 1) = false := by rw [beq_eq_false_iff_ne]; omega
  have e2 : ((v.kind : Int) == 2) = false := by rw [beq_eq_false_iff_ne]; omega
  have e3 : ((v.kind : Int) == 3) = false := by rw [beq_eq_false_iff_ne]; omega
  have e4 : ((v.kind : Int) == 4) = false := by rw [beq_eq_false_iff_ne]; omega
  have e5 : ((v.kind : Int) == 5) = false := by rw [beq_eq_false_iff_ne]; omega
  have e6 : ((v.kind : Int) == 6) = false := by rw [beq_eq_false_iff_ne]; omega
  rw [if_neg h0, if_neg h1, if_neg h2, if_neg h3, if_neg h4, if_neg h5, if_neg h6]
  clear h0 h1 h2 h3 h4 h5 h6
  go_enter Tryz.func74, Tryz.ntmps74
  go_wp2
  exact bodyPost_end (v := .tuple #[]) (by simp [results, Tryz.results74]) rfl ⟨rfl, HF.out [] _ (by simpa using HB.out.1) (Wf.refl _ _ _)⟩
end Go.Proofs.YtcdeikhfmllkdaaGreatDoor
