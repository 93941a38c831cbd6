import Derived.Test.YtcdeikhfmllkdaaGreatDoorJg
import Derived.Deep.QuietTactic
import Derived.BigQuiet
/- json's writer: the walk of many (printed by manyw_gen.py). -/
namespace Go.Proofs.YtcdeikhfmllkdaaGreatDoor
open Go.RowKit
set_option linter.unusedVariables false
set_option linter.unusedSimpArgs false

/-- Where the loop stands: g more rounds at most. -/
structure Lw (fm : Nat) (w wr : World) (b : Nat) (V : Value) (l : List Val) (i M : Nat) (o : Bool) (x : Bytes) (k : Nat) (g n : Nat) (out : Bytes) (fi : Bool) : Prop where
  wr : Wr w wr b V l n out
  le : n ≤ l.length
  fuel : 2 * (l.length - n) + 1 < g
  top : g ≤ fm
  room : out.length + 1 + wt (l.drop n) ≤ M
  text : out ++ (loopW g l n i o fi).1 = x
  next : (loopW g l n i o fi).2 = k

def fiV (fi : Bool) : Value := .bool fi

theorem Lw.far {fm : Nat} {w wr : World} {b : Nat} {V : Value} {l : List Val} {i M : Nat} {o : Bool} {x : Bytes} {k g n : Nat} {out : Bytes} {fi : Bool} (L : Lw fm w wr b V l i M o x k g n out fi) {v : Val} (hv : l[n]? = some v) :
    ∃ a cap, V = .slice (some a) l.length cap ∧ wr.cell? (a.add (n * 4)) = some (.int .i64 v.parent) ∧ wr.cell? ⟨(a.add (n * 4)).block, (a.add (n * 4)).off + 2, none⟩ = some (.string (str v.name)) ∧ (a.add (n * 4)).block < w.heap.size := by
  obtain ⟨a, cap, e, j0, -⟩ := L.wr.lst.at hv
  obtain ⟨a', cap', e', k0, k1, k2, k3⟩ := (L.wr.lst.below L.wr.below).at hv
  rw [e] at e'
  simp only [Value.slice.injEq, Option.some.injEq, true_and] at e'
  obtain ⟨rfl, rfl⟩ := e'
  exact ⟨a, cap, e, k0, k2, World.block_lt_of_cell? w _ j0⟩


set_option maxRecDepth 100000 in
set_option maxHeartbeats 8000000 in
theorem many_w_arr {f : Nat} (hv : Hid (∀ g, g < f → ValHyp g)) {w wr : World} {b : Nat} {V : Value} {l : List Val} {n i : Nat} {out : Bytes} {M : Nat} (W : Wr w wr b V l n out) (hn : n ≤ l.length) (hl : l.length ≤ 1000000) (hf : 2 * (l.length - n) + 1 < f) (hM : out.length + 2 + wt (l.drop n) ≤ M) (hM2 : M ≤ 140737488350000) :
    Calls Tryz.prog 119 #[.pointer (some ⟨b, 0, none⟩), .int .i64 i, .int .u8 91, .int .u8 93] wr fun e w' => e = .returned (.tuple #[]) ∧ Wr w w' b V l (loopW f l n i false true).2 (out ++ ([91] ++ (loopW f l n i false true).1 ++ [93])) := by
  have HW := Lib.hid W
  have hB : w.heap.size ≤ wr.heap.size := W.below.size
  obtain ⟨p, cap, rfl⟩ := W.lst.form
  obtain ⟨x, hx⟩ : ∃ x, (out ++ [91]) ++ (loopW f l n i false true).1 = x := ⟨_, rfl⟩
  obtain ⟨k, hk⟩ : ∃ k, (loopW f l n i false true).2 = k := ⟨_, rfl⟩
  have hpost : out ++ ([91] ++ (loopW f l n i false true).1 ++ [93]) = x ++ [93] := by rw [← hx]; simp
  rw [hpost, hk]
  have HX := Lib.hid (And.intro hx hk)
  clear W hpost hx hk
  go_enter Tryz.func119, Tryz.ntmps119
  go_wp2_with fail
  refine (writeByte_w headB57 rfl HW.out.wb 91 rfl (by omega) hB).mono ?_
  rintro e w1 ⟨rfl, h1, f1⟩
  have H1 : Hid (Lw f w w1 b (.slice p l.length cap) l i M false x k f n (out ++ [91]) true) :=
    Lib.hid ⟨⟨h1, HW.out.below.trans f1.below, HW.out.lst⟩, hn, hf, Nat.le_refl _, by simp only [List.length_append, List.length_cons, List.length_nil]; omega, HX.out.1, HX.out.2⟩
  clear h1 f1
  go_wp2_with fail
  go_loopg [8] f (fun g c8 wr => ∃ n out fi, c8 = .bool fi ∧ Lw f w wr b (.slice p l.length cap) l i M false x k g n out fi)
  case atStart => exact ⟨_, _, _, rfl, H1.out⟩
  case round =>
    clear HW HX H1 hB hn hf hM
    obtain ⟨n1, out1, fi, rfl, L⟩ := hrel
    obtain ⟨g, rfl⟩ : ∃ g, gk = g + 1 := ⟨gk - 1, by have := L.fuel; omega⟩
    obtain ⟨c2, c3, f3, hb⟩ := L.wr.cells
    have hle := L.le
    have hroom := L.room
    have b0 : (0 : Int) ≤ (n1 : Int) := by omega
    have hB : w.heap.size ≤ wr.heap.size := L.wr.below.size
    have HL := Lib.hid L
    clear L
    -- the loop's end: what follows it
    have hend : loopW (g + 1) l n1 i false fi = ([], n1) → x = out1 ∧ k = n1 := by
      intro h
      have h1 := HL.out.text
      have h2 := HL.out.next
      rw [h] at h1 h2
      exact ⟨by rw [← h1]; simp, h2.symm⟩
    have HE := Lib.hid hend
    clear hend
    cases hv1 : l[n1]? with
    | none =>
      have hnl : n1 = l.length := by have := List.getElem?_eq_none_iff.1 hv1; omega
      have hlw : loopW (g + 1) l n1 i false fi = ([], n1) := by simp [loopW, hv1]
      have b1 : decide ((n1 : Int) < (l.length : Int)) = false := by simp; omega
      have b2 : decide (n1 < l.length) = false := by simp; omega
      have HZ := Lib.hid (HE.out hlw)
      clear hv1 hnl hlw HE
      go_wp2_with fail
      go_quiet (fail)
      go_wp2_with fail
      refine (writeByte_w headB57 rfl (HL.out.wr.wb.drewN _) 93 rfl (by omega) hB).mono ?_
      rintro e w2 ⟨rfl, h2, f2⟩
      have H2 := Lib.hid (And.intro h2 f2)
      clear h2 f2
      go_wp2
      refine bodyPost_end (v := .tuple #[]) (by simp [results, Tryz.results119]) rfl ⟨rfl, ?_⟩
      rw [HZ.out.1, HZ.out.2]
      exact ⟨H2.out.1, (HL.out.wr.below.trans ((Wf.drewN (B := w.heap.size) (b := b) _ _).trans H2.out.2).below), HL.out.wr.lst⟩
    | some v =>
      obtain ⟨a, cap', e, k0, k2, hab⟩ := HL.out.far hv1
      simp only [Value.slice.injEq] at e
      obtain ⟨rfl, -, rfl⟩ := e
      have hlt := (List.getElem?_eq_some_iff.1 hv1).1
      have b1 : (n1 : Int) < (l.length : Int) := by omega
      have b1' : decide ((n1 : Int) < (l.length : Int)) = true := by simp; omega
      have hw := wt_drop hv1
      by_cases hp : v.parent = (i : Int)
      case neg =>
        have hlw : loopW (g + 1) l n1 i false fi = ([], n1) := by simp [loopW, hv1, hp]
        have hpb : (v.parent == (i : Int)) = false := by rw [beq_eq_false_iff_ne]; exact hp
        have HZ := Lib.hid (HE.out hlw)
        clear hv1 hlw HE hp
        go_wp2_with fail
        go_quiet (fail)
        go_wp2_with fail
        refine (writeByte_w headB57 rfl (HL.out.wr.wb.drewN _) 93 rfl (by omega) hB).mono ?_
        rintro e w2 ⟨rfl, h2, f2⟩
        have H2 := Lib.hid (And.intro h2 f2)
        clear h2 f2
        go_wp2
        refine bodyPost_end (v := .tuple #[]) (by simp [results, Tryz.results119]) rfl ⟨rfl, ?_⟩
        rw [HZ.out.1, HZ.out.2]
        exact ⟨H2.out.1, (HL.out.wr.below.trans ((Wf.drewN (B := w.heap.size) (b := b) _ _).trans H2.out.2).below), HL.out.wr.lst⟩
      have hlw : loopW (g + 1) l n1 i false fi = ((if fi then [] else [44]) ++ ([] : Bytes) ++ (valW g l n1).1 ++ (loopW g l (valW g l n1).2 i false false).1, (loopW g l (valW g l n1).2 i false false).2) := by
        simp only [loopW, hv1]; rw [if_pos hp]; rfl
      have hpb : (v.parent == (i : Int)) = true := by rw [beq_iff_eq]; exact hp
      have hwl := (writes_len g).1 l n1 v hv1 (by have := HL.out.fuel; omega)
      have hql := quoteM_len v.name
      have hg : 2 * (l.length - n1) < g := by have := HL.out.fuel; omega
      have hgf : g < f := by have := HL.out.top; omega
      -- behind the value: the next round
      have hnext : ∀ (w' : World), Wr w w' b (.slice (some a) l.length cap) l (valW g l n1).2 (out1 ++ ((if fi then [] else [44]) ++ ([] : Bytes)) ++ (valW g l n1).1) → Lw f w w' b (.slice (some a) l.length cap) l i M false x k g (valW g l n1).2 (out1 ++ ((if fi then [] else [44]) ++ ([] : Bytes)) ++ (valW g l n1).1) false := by
        intro w' h
        have h4 : (if fi = true then ([] : Bytes) else [44]).length ≤ 1 := by split <;> simp
        have h5 : (([] : Bytes)).length ≤ 6 * v.name.length + 3 := by simp only [List.length_append, List.length_cons, List.length_nil]; omega
        have ht := HL.out.text
        have hk := HL.out.next
        rw [hlw] at ht hk
        refine ⟨h, hwl.2.1, by omega, by omega, by simp only [List.length_append, List.length_cons, List.length_nil] at *; omega, ?_, hk⟩
        rw [← ht]; simp
      have HN := Lib.hid hnext
      have HV := Lib.hid (And.intro hv1 hwl)
      clear hnext hv1 hwl hlw HE hp
      cases fi
      case true =>
        have hx1 : (if (true : Bool) = true then ([] : Bytes) else [44]) = [] := rfl
        rw [hx1] at HN
        clear hx1
        go_wp2_with fail
        go_quiet (fail)
        go_wp2_with fail
        refine (hv.out g hgf w _ b _ l n1 out1 (M - 1) ⟨HL.out.wr.wb.drewN _, HL.out.wr.below.trans (Wf.drewN (B := w.heap.size) (b := b) wr _).below, HL.out.wr.lst⟩ hlt hl hg (fun v' hv' => by rw [HV.out.1] at hv'; simp only [Option.some.injEq] at hv'; subst hv'; omega) (by omega)).mono ?_
        rintro e w3 ⟨rfl, h3⟩
        have H3 := Lib.hid (HN.out w3 (by simpa using h3))
        clear h3
        go_wp2
        go_roundg g
        case measure => omega
        case rel => exact ⟨_, _, _, rfl, H3.out⟩
      case false =>
        have hx1 : (if (false : Bool) = true then ([] : Bytes) else [44]) = [44] := rfl
        rw [hx1] at HN
        clear hx1
        go_wp2_with fail
        go_quiet (fail)
        go_wp2_with fail
        refine (writeByte_w headB57 rfl (HL.out.wr.wb.drewN _) 44 rfl (by omega) hB).mono ?_
        rintro e w2 ⟨rfl, h2, f2⟩
        have H2 := Lib.hid (And.intro h2 ((Wf.drewN (B := w.heap.size) (b := b) wr _).trans f2))
        have hB2 : w.heap.size ≤ w2.heap.size := by have := f2.size; have := hB; exact Nat.le_trans hB (Nat.le_trans (Wf.drewN (B := w.heap.size) (b := b) wr _).size f2.size)
        clear h2 f2
        go_wp2_with fail
        refine (hv.out g hgf w _ b _ l n1 (out1 ++ [44]) M ⟨H2.out.1, HL.out.wr.below.trans H2.out.2.below, HL.out.wr.lst⟩ hlt hl hg (fun v' hv' => by rw [HV.out.1] at hv'; simp only [Option.some.injEq] at hv'; subst hv'; simp only [List.length_append, List.length_cons, List.length_nil]; omega) (by omega)).mono ?_
        rintro e w3 ⟨rfl, h3⟩
        have H3 := Lib.hid (HN.out w3 (by simpa using h3))
        clear h3
        go_wp2
        go_roundg g
        case measure => omega
        case rel => exact ⟨_, _, _, rfl, H3.out⟩

set_option maxRecDepth 100000 in
set_option maxHeartbeats 8000000 in
theorem many_w_obj {f : Nat} (hv : Hid (∀ g, g < f → ValHyp g)) {w wr : World} {b : Nat} {V : Value} {l : List Val} {n i : Nat} {out : Bytes} {M : Nat} (W : Wr w wr b V l n out) (hn : n ≤ l.length) (hl : l.length ≤ 1000000) (hf : 2 * (l.length - n) + 1 < f) (hM : out.length + 2 + wt (l.drop n) ≤ M) (hM2 : M ≤ 140737488350000) :
    Calls Tryz.prog 119 #[.pointer (some ⟨b, 0, none⟩), .int .i64 i, .int .u8 123, .int .u8 125] wr fun e w' => e = .returned (.tuple #[]) ∧ Wr w w' b V l (loopW f l n i true true).2 (out ++ ([123] ++ (loopW f l n i true true).1 ++ [125])) := by
  have HW := Lib.hid W
  have hB : w.heap.size ≤ wr.heap.size := W.below.size
  obtain ⟨p, cap, rfl⟩ := W.lst.form
  obtain ⟨x, hx⟩ : ∃ x, (out ++ [123]) ++ (loopW f l n i true true).1 = x := ⟨_, rfl⟩
  obtain ⟨k, hk⟩ : ∃ k, (loopW f l n i true true).2 = k := ⟨_, rfl⟩
  have hpost : out ++ ([123] ++ (loopW f l n i true true).1 ++ [125]) = x ++ [125] := by rw [← hx]; simp
  rw [hpost, hk]
  have HX := Lib.hid (And.intro hx hk)
  clear W hpost hx hk
  go_enter Tryz.func119, Tryz.ntmps119
  go_wp2_with fail
  refine (writeByte_w headB57 rfl HW.out.wb 123 rfl (by omega) hB).mono ?_
  rintro e w1 ⟨rfl, h1, f1⟩
  have H1 : Hid (Lw f w w1 b (.slice p l.length cap) l i M true x k f n (out ++ [123]) true) :=
    Lib.hid ⟨⟨h1, HW.out.below.trans f1.below, HW.out.lst⟩, hn, hf, Nat.le_refl _, by simp only [List.length_append, List.length_cons, List.length_nil]; omega, HX.out.1, HX.out.2⟩
  clear h1 f1
  go_wp2_with fail
  go_loopg [8] f (fun g c8 wr => ∃ n out fi, c8 = .bool fi ∧ Lw f w wr b (.slice p l.length cap) l i M true x k g n out fi)
  case atStart => exact ⟨_, _, _, rfl, H1.out⟩
  case round =>
    clear HW HX H1 hB hn hf hM
    obtain ⟨n1, out1, fi, rfl, L⟩ := hrel
    obtain ⟨g, rfl⟩ : ∃ g, gk = g + 1 := ⟨gk - 1, by have := L.fuel; omega⟩
    obtain ⟨c2, c3, f3, hb⟩ := L.wr.cells
    have hle := L.le
    have hroom := L.room
    have b0 : (0 : Int) ≤ (n1 : Int) := by omega
    have hB : w.heap.size ≤ wr.heap.size := L.wr.below.size
    have HL := Lib.hid L
    clear L
    -- the loop's end: what follows it
    have hend : loopW (g + 1) l n1 i true fi = ([], n1) → x = out1 ∧ k = n1 := by
      intro h
      have h1 := HL.out.text
      have h2 := HL.out.next
      rw [h] at h1 h2
      exact ⟨by rw [← h1]; simp, h2.symm⟩
    have HE := Lib.hid hend
    clear hend
    cases hv1 : l[n1]? with
    | none =>
      have hnl : n1 = l.length := by have := List.getElem?_eq_none_iff.1 hv1; omega
      have hlw : loopW (g + 1) l n1 i true fi = ([], n1) := by simp [loopW, hv1]
      have b1 : decide ((n1 : Int) < (l.length : Int)) = false := by simp; omega
      have b2 : decide (n1 < l.length) = false := by simp; omega
      have HZ := Lib.hid (HE.out hlw)
      clear hv1 hnl hlw HE
      go_wp2_with fail
      go_quiet (fail)
      go_wp2_with fail
      refine (writeByte_w headB57 rfl (HL.out.wr.wb.drewN _) 125 rfl (by omega) hB).mono ?_
      rintro e w2 ⟨rfl, h2, f2⟩
      have H2 := Lib.hid (And.intro h2 f2)
      clear h2 f2
      go_wp2
      refine bodyPost_end (v := .tuple #[]) (by simp [results, Tryz.results119]) rfl ⟨rfl, ?_⟩
      rw [HZ.out.1, HZ.out.2]
      exact ⟨H2.out.1, (HL.out.wr.below.trans ((Wf.drewN (B := w.heap.size) (b := b) _ _).trans H2.out.2).below), HL.out.wr.lst⟩
    | some v =>
      obtain ⟨a, cap', e, k0, k2, hab⟩ := HL.out.far hv1
      simp only [Value.slice.injEq] at e
      obtain ⟨rfl, -, rfl⟩ := e
      have hlt := (List.getElem?_eq_some_iff.1 hv1).1
      have b1 : (n1 : Int) < (l.length : Int) := by omega
      have b1' : decide ((n1 : Int) < (l.length : Int)) = true := by simp; omega
      have hw := wt_drop hv1
      by_cases hp : v.parent = (i : Int)
      case neg =>
        have hlw : loopW (g + 1) l n1 i true fi = ([], n1) := by simp [loopW, hv1, hp]
        have hpb : (v.parent == (i : Int)) = false := by rw [beq_eq_false_iff_ne]; exact hp
        have HZ := Lib.hid (HE.out hlw)
        clear hv1 hlw HE hp
        go_wp2_with fail
        go_quiet (fail)
        go_wp2_with fail
        refine (writeByte_w headB57 rfl (HL.out.wr.wb.drewN _) 125 rfl (by omega) hB).mono ?_
        rintro e w2 ⟨rfl, h2, f2⟩
        have H2 := Lib.hid (And.intro h2 f2)
        clear h2 f2
        go_wp2
        refine bodyPost_end (v := .tuple #[]) (by simp [results, Tryz.results119]) rfl ⟨rfl, ?_⟩
        rw [HZ.out.1, HZ.out.2]
        exact ⟨H2.out.1, (HL.out.wr.below.trans ((Wf.drewN (B := w.heap.size) (b := b) _ _).trans H2.out.2).below), HL.out.wr.lst⟩
      have hlw : loopW (g + 1) l n1 i true fi = ((if fi then [] else [44]) ++ (quoteM v.name ++ [58]) ++ (valW g l n1).1 ++ (loopW g l (valW g l n1).2 i true false).1, (loopW g l (valW g l n1).2 i true false).2) := by
        simp only [loopW, hv1]; rw [if_pos hp]; rfl
      have hpb : (v.parent == (i : Int)) = true := by rw [beq_iff_eq]; exact hp
      have hwl := (writes_len g).1 l n1 v hv1 (by have := HL.out.fuel; omega)
      have hql := quoteM_len v.name
      have hg : 2 * (l.length - n1) < g := by have := HL.out.fuel; omega
      have hgf : g < f := by have := HL.out.top; omega
      -- behind the value: the next round
      have hnext : ∀ (w' : World), Wr w w' b (.slice (some a) l.length cap) l (valW g l n1).2 (out1 ++ ((if fi then [] else [44]) ++ (quoteM v.name ++ [58])) ++ (valW g l n1).1) → Lw f w w' b (.slice (some a) l.length cap) l i M true x k g (valW g l n1).2 (out1 ++ ((if fi then [] else [44]) ++ (quoteM v.name ++ [58])) ++ (valW g l n1).1) false := by
        intro w' h
        have h4 : (if fi = true then ([] : Bytes) else [44]).length ≤ 1 := by split <;> simp
        have h5 : ((quoteM v.name ++ [58])).length ≤ 6 * v.name.length + 3 := by simp only [List.length_append, List.length_cons, List.length_nil]; omega
        have ht := HL.out.text
        have hk := HL.out.next
        rw [hlw] at ht hk
        refine ⟨h, hwl.2.1, by omega, by omega, by simp only [List.length_append, List.length_cons, List.length_nil] at *; omega, ?_, hk⟩
        rw [← ht]; simp
      have HN := Lib.hid hnext
      have HV := Lib.hid (And.intro hv1 hwl)
      clear hnext hv1 hwl hlw HE hp
      cases fi
      case true =>
        have hx1 : (if (true : Bool) = true then ([] : Bytes) else [44]) = [] := rfl
        rw [hx1] at HN
        clear hx1
        go_wp2_with fail
        go_quiet (fail)
        go_wp2_with fail
        have W0 : Wb (wr.drewN nq) b w.heap.size 124 [.slice (some a) l.length cap, .int .i64 n1] out1 := HL.out.wr.wb.drewN _
        have F0 : Wf w.heap.size b wr (wr.drewN nq) := Wf.drewN _ _
        have HP := Lib.hid (And.intro W0 (And.intro F0 hB))
        clear W0 F0
        refine still_tail_drew 14 (by kernel_rfl) (by kernel_rfl) ?_
        simp only [List.take_succ_cons, List.take_zero, List.drop_succ_cons, List.drop_zero]
        repeat still_step
        refine wpStill_nil ?_
        go_wp2_with fail
        refine (quote_w headB57 rfl (HP.out.1.drewN 1) v.name (by first | omega | (simp only [List.length_append, List.length_cons, List.length_nil] at *; omega)) HP.out.2.2).mono ?_
        rintro e w3 ⟨rfl, h3, f3⟩
        have hB3 : w.heap.size ≤ w3.heap.size := Nat.le_trans HP.out.2.2 f3.size
        have H3 := Lib.hid (And.intro h3 ((HP.out.2.1.trans (Wf.drewN _ 1)).trans f3))
        clear h3 f3
        go_wp2_with fail
        refine (writeByte_w headB57 rfl H3.out.1 58 rfl (by simp only [List.length_append, List.length_cons, List.length_nil] at *; omega) hB3).mono ?_
        rintro e w4 ⟨rfl, h4, f4⟩
        have H4 := Lib.hid (And.intro h4 (H3.out.2.trans f4))
        clear h4 f4
        go_wp2_with fail
        refine (hv.out g hgf w _ b _ l n1 (out1 ++ quoteM v.name ++ [58]) M ⟨H4.out.1, HL.out.wr.below.trans H4.out.2.below, HL.out.wr.lst⟩ hlt hl hg (fun v' hv' => by rw [HV.out.1] at hv'; simp only [Option.some.injEq] at hv'; subst hv'; simp only [List.length_append, List.length_cons, List.length_nil] at *; omega) (by omega)).mono ?_
        rintro e w5 ⟨rfl, h5⟩
        have H5 := Lib.hid (HN.out w5 (by simpa using h5))
        clear h5
        go_wp2
        go_roundg g
        case measure => omega
        case rel => exact ⟨_, _, _, rfl, H5.out⟩
      case false =>
        have hx1 : (if (false : Bool) = true then ([] : Bytes) else [44]) = [44] := rfl
        rw [hx1] at HN
        clear hx1
        go_wp2_with fail
        go_quiet (fail)
        go_wp2_with fail
        refine (writeByte_w headB57 rfl (HL.out.wr.wb.drewN _) 44 rfl (by omega) hB).mono ?_
        rintro e w2 ⟨rfl, h2, f2⟩
        have H2 := Lib.hid (And.intro h2 ((Wf.drewN (B := w.heap.size) (b := b) wr _).trans f2))
        have hB2 : w.heap.size ≤ w2.heap.size := by have := f2.size; have := hB; exact Nat.le_trans hB (Nat.le_trans (Wf.drewN (B := w.heap.size) (b := b) wr _).size f2.size)
        clear h2 f2
        go_wp2_with fail
        have e2 := (cells_of (H2.out.1.choose_spec.choose_spec.2.row) 2).1
        have e3 := (cells_of (H2.out.1.choose_spec.choose_spec.2.row) 3).1
        have g2 : w2.cell? ⟨(a.add (n1 * 4)).block, (a.add (n1 * 4)).off + 2, none⟩ = some (.string (str v.name)) := (World.cell?_of_block (a := ⟨(a.add (n1 * 4)).block, (a.add (n1 * 4)).off + 2, none⟩) (H2.out.2.below.block _ hab)).trans k2
        simp only [List.getElem?_toArray, List.getElem?_cons_succ, List.getElem?_cons_zero] at e2 e3
        clear c2 c3 f3 k0 k2
        have HP := Lib.hid (And.intro H2.out.1 (And.intro H2.out.2 hB2))
        refine still_tail_drew 14 (by kernel_rfl) (by kernel_rfl) ?_
        simp only [List.take_succ_cons, List.take_zero, List.drop_succ_cons, List.drop_zero]
        repeat still_step
        refine wpStill_nil ?_
        go_wp2_with fail
        refine (quote_w headB57 rfl (HP.out.1.drewN 1) v.name (by first | omega | (simp only [List.length_append, List.length_cons, List.length_nil] at *; omega)) HP.out.2.2).mono ?_
        rintro e w3 ⟨rfl, h3, f3⟩
        have hB3 : w.heap.size ≤ w3.heap.size := Nat.le_trans HP.out.2.2 f3.size
        have H3 := Lib.hid (And.intro h3 ((HP.out.2.1.trans (Wf.drewN _ 1)).trans f3))
        clear h3 f3
        go_wp2_with fail
        refine (writeByte_w headB57 rfl H3.out.1 58 rfl (by simp only [List.length_append, List.length_cons, List.length_nil] at *; omega) hB3).mono ?_
        rintro e w4 ⟨rfl, h4, f4⟩
        have H4 := Lib.hid (And.intro h4 (H3.out.2.trans f4))
        clear h4 f4
        go_wp2_with fail
        refine (hv.out g hgf w _ b _ l n1 ((out1 ++ [44]) ++ quoteM v.name ++ [58]) M ⟨H4.out.1, HL.out.wr.below.trans H4.out.2.below, HL.out.wr.lst⟩ hlt hl hg (fun v' hv' => by rw [HV.out.1] at hv'; simp only [Option.some.injEq] at hv'; subst hv'; simp only [List.length_append, List.length_cons, List.length_nil] at *; omega) (by omega)).mono ?_
        rintro e w5 ⟨rfl, h5⟩
        have H5 := Lib.hid (HN.out w5 (by simpa using h5))
        clear h5
        go_wp2
        go_roundg g
        case measure => omega
        case rel => exact ⟨_, _, _, rfl, H5.out⟩

/-- value and many, whatever the fuel. -/
theorem whyps (F : Nat) : ValHyp F ∧ ManyWHyp F := by
  induction F using Nat.strongRecOn with
  | _ F ih =>
    constructor
    · cases F with
      | zero => exact fun _ _ _ _ _ _ _ _ _ _ _ h => by omega
      | succ f => exact fun w wr b V l n out M W hn hl hf hM hM2 => value_w (Lib.hid (ih f (by omega)).2) W hn hl hf hM hM2
    · intro w wr b V l n i out M c d hcd W hn hl hf hM hM2
      have hv : Hid (∀ g, g < F → ValHyp g) := Lib.hid (fun g hg => (ih g hg).1)
      rcases hcd with ⟨rfl, rfl⟩ | ⟨rfl, rfl⟩
      · exact many_w_arr hv W hn hl hf hM hM2
      · exact many_w_obj hv W hn hl hf hM hM2

theorem wr_start {w w' : World} {V : Value} {l : List Val} (L : Lst w V l) (hb : Below w.heap.size w w') :
    Wr w (w'.alloc (.cells #[.pointer none, .slice none 0 0, V, .int .i64 0] 124)) w'.heap.size V l 0 [] := by
  refine ⟨⟨.pointer none, .slice none 0 0, .inl rfl, hb.size, heap_alloc_new _ _, World.ownsRowF_nil _ _ _ _, by simp [Value.ownBlock]⟩, hb.alloc hb.size _, L⟩

end Go.Proofs.YtcdeikhfmllkdaaGreatDoor
