import Derived.Test.YtcdeikhfmllkdaaGreatDoorJe
/- json's shape.next: where a value may stand. -/
namespace Go.Proofs.YtcdeikhfmllkdaaGreatDoor
open Go.RowKit
set_option linter.unusedVariables false

/-- The open values, by their places. -/
def ocells (o : List Nat) : List Value := o.map (fun (n : Nat) => .int .i64 (n : Int))
def Ints (w : World) (B : Nat) (O : Value) (o : List Nat) : Prop := w.ownsRow B 3 1 O o.length (ocells o)
theorem Ints.kept {w w' : World} {B : Nat} {O : Value} {o : List Nat} (h : Ints w B O o) (t : ∀ k, O.ownBlock = some k → w'.heap[k]? = w.heap[k]?) : Ints w' B O o := by
  refine ⟨h.1, ?_⟩
  rcases h.2 with hn | ⟨g, cap, cur, rfl, hb, hg, rest⟩
  · exact .inl hn
  · exact .inr ⟨g, cap, cur, rfl, hb, (t g rfl).trans hg, rest⟩
theorem Ints.form {w : World} {B : Nat} {O : Value} {o : List Nat} (h : Ints w B O o) : ∃ p cap, O = .slice p o.length cap ∧ o.length ≤ cap ∧ (o ≠ [] → ∃ g, p = some ⟨g, 0, none⟩ ∧ ∀ (j n : Nat), o[j]? = some n → w.cell? ⟨g, j, none⟩ = some (.int .i64 n)) := by
  rcases h.2 with ⟨h1, h2⟩ | ⟨g, cap, cur, h1, hb, hg, hc, hm, hs, ht⟩
  · have : o = [] := List.eq_nil_of_length_eq_zero h2
    subst this
    exact ⟨none, 0, by rw [h1]; rfl, Nat.le_refl _, fun h => absurd rfl h⟩
  · refine ⟨_, cap, h1, hc, fun _ => ⟨g, rfl, fun j n hj => ?_⟩⟩
    have hjl : j < o.length := (List.getElem?_eq_some_iff.1 hj).1
    rw [(cells_of hg j).1]
    have : cur[j]? = (cur.toList.take (o.length * 1))[j]? := by rw [List.getElem?_take, if_pos (by omega)]; simp
    rw [this, ht]
    simp [ocells, hj]
/-- Cut to the first n. -/
theorem Ints.take {w : World} {B : Nat} {p : Option Addr} {cap : Nat} {o : List Nat} (h : Ints w B (.slice p o.length cap) o) (n : Nat) (hn : n ≤ o.length) (h0 : o ≠ []) : Ints w B (.slice p n cap) (o.take n) := by
  rcases h.2 with ⟨h1, h2⟩ | ⟨g, cap', cur, h1, hb, hg, hc, hm, hs, ht⟩
  · exact absurd (List.eq_nil_of_length_eq_zero h2) h0
  · simp only [Value.slice.injEq, true_and] at h1
    obtain ⟨rfl, rfl⟩ := h1
    have hl : (o.take n).length = n := by simp; omega
    refine ⟨by simp [ocells], .inr ⟨g, cap, cur, by rw [hl], hb, hg, by omega, hm, hs, ?_⟩⟩
    rw [hl]
    have : cur.toList.take (n * 1) = (cur.toList.take (o.length * 1)).take (n * 1) := by rw [List.take_take]; congr 1; omega
    rw [this, ht]
    simp [ocells, List.map_take]

def ixM (o : List Nat) (p : Int) : Option Nat := o.findIdx? (fun (x : Nat) => (x : Int) = p)

theorem ret_int {k : IntKind} {a b : Int} (h : a = b) : Ending.returned (.int k a) = .returned (.int k b) := by rw [h]

structure IdRel (w : World) (o : List Nat) (p : Int) (n : Nat) : Prop where
  le : n ≤ o.length
  past : ∀ j (h : j < o.length), j < n → (o[j] : Int) ≠ p
theorem ixM_none {o : List Nat} {p : Int} (h : ∀ j (h : j < o.length), j < o.length → (o[j] : Int) ≠ p) : ixM o p = none := by
  unfold ixM
  rw [List.findIdx?_eq_none_iff]
  intro v hv
  obtain ⟨j, hj, rfl⟩ := List.mem_iff_getElem.1 hv
  simpa using h j hj hj
theorem ixM_some {o : List Nat} {p : Int} {n : Nat} (hn : n < o.length) (h : ∀ j (h : j < o.length), j < n → (o[j] : Int) ≠ p) (hp : (o[n] : Int) = p) : ixM o p = some n := by
  unfold ixM
  rw [List.findIdx?_eq_some_iff_getElem]
  exact ⟨hn, by simpa using hp, fun j hj => by simpa using h j (by omega) hj⟩

set_option maxHeartbeats 1000000 in
theorem index_any {w : World} {B : Nat} {O : Value} {o : List Nat} (h : Ints w B O o) (hl : o.length ≤ 1000000) (p : Int) :
    Calls Tryz.prog 153 #[O, .int .i64 p] w fun e w' => e = .returned (.int .i64 (match ixM o p with | some k => (k : Int) | none => -1)) ∧ w' = w := by
  obtain ⟨q, cap, rfl, hcap, hcs⟩ := h.form
  obtain ⟨r, hr⟩ : ∃ r, (match ixM o p with | some k => (k : Int) | none => -1) = r := ⟨_, rfl⟩
  rw [hr]
  have HR := Lib.hid hr
  have HC := Lib.hid hcs
  clear h hr hcs
  go_enter Tryz.func153, Tryz.ntmps153
  go_wp2
  go_loop [8] (fun k => ∃ n : Nat, k = .int .i64 n ∧ IdRel w o p n) (fun k => o.length - (intOf k).toNat)
  case atStart => exact ⟨0, rfl, by omega, fun j h hj => absurd hj (by omega)⟩
  case round =>
    obtain ⟨n, rfl, hrel⟩ := hrel
    have hle := hrel.le
    have HRel := Lib.hid hrel
    clear hrel
    by_cases hlt : n < o.length
    · obtain ⟨g, rfl, hg⟩ := HC.out (by rintro rfl; simp at hlt)
      obtain ⟨x, hx⟩ : ∃ x, o[n] = x := ⟨_, rfl⟩
      have c0 := hg n x (by rw [← hx]; exact List.getElem?_eq_getElem hlt)
      have HX := Lib.hid hx
      clear hx hg
      by_cases hp : (x : Int) = p
      · have hb : (p == (x : Int)) = true := by rw [beq_iff_eq]; exact hp.symm
        have HP := Lib.hid hp
        clear hp
        go_wp2
        go_ret
        refine ⟨ret_int ?_, rfl⟩
        rw [← HR.out, ixM_some hlt HRel.out.past (by rw [HX.out]; exact HP.out)]
      · have hb : (p == (x : Int)) = false := by rw [beq_eq_false_iff_ne]; exact fun e => hp e.symm
        have HP := Lib.hid hp
        clear hp
        go_wp2
        go_round
        case measure => simp [intOf]; omega
        case rel =>
          refine ⟨n + 1, by go_num, by omega, fun j h hj => ?_⟩
          by_cases hjn : j = n
          · subst hjn; rw [HX.out]; exact HP.out
          · exact HRel.out.past j h (by omega)
    · go_wp2
      go_ret
      have hn : n = o.length := by omega
      refine ⟨ret_int ?_, rfl⟩
      rw [← HR.out, ixM_none (hn ▸ HRel.out.past)]

/-- Behind the value i the open ones are these. -/
def stackM (v : Val) (i : Nat) (o : List Nat) : List Nat := if v.kind = 5 ∨ v.kind = 6 then o ++ [i] else o
/-- May the value i stand where it does? And which ones are open behind it. -/
def nextM (l : List Val) (o : List Nat) (i : Nat) (v : Val) : Option (List Nat) :=
  if i = 0 then if v.parent = -1 ∧ v.name = [] then some (stackM v i o) else none
  else match ixM o v.parent with
    | none => none
    | some k => if 16 ≤ k + 1 then none else if v.name ≠ [] ∧ (l.getD (o.getD k 0) ⟨0, 0, [], []⟩).kind ≠ 6 then none else some (stackM v i (o.take (k + 1)))

/-- A shape in memory. -/
structure Sh (w : World) (q B : Nat) (O V : Value) (o : List Nat) : Prop where
  row : w.heap[q]? = some (.cells #[O, V] 172)
  own : Ints w B O o
  hB : B ≤ q

def NxPost (w : World) (q B : Nat) (O V : Value) (r : Option (List Nat)) (e : Ending) (w' : World) : Prop :=
  Turn (fun k => k = q ∨ O.ownBlock = some k) w w' ∧ match r with
  | none => e = .returned (.bool false)
  | some o => e = .returned (.bool true) ∧ ∃ O, Sh w' q B O V o

theorem val_box {w : World} (v : Val) : (w.alloc (.cells #[.int .i64 v.parent, .int .u8 v.kind, .string (str v.name), .string (str v.text)] 78)).heap[w.heap.size]? = some (.cells #[.int .i64 v.parent, .int .u8 v.kind, .string (str v.name), .string (str v.text)] 78) := heap_alloc_new _ _

/-- What the walk of next has at hand: the value's cells, the shape's, and the value's own variable. -/
structure NxAt (w : World) (q B : Nat) (O : Value) (a : Addr) (cap len i : Nat) (v : Val) : Prop where
  k0 : w.cell? (a.add (i * 4)) = some (.int .i64 v.parent)
  k1 : w.cell? ⟨(a.add (i * 4)).block, (a.add (i * 4)).off + 1, none⟩ = some (.int .u8 v.kind)
  k2 : w.cell? ⟨(a.add (i * 4)).block, (a.add (i * 4)).off + 2, none⟩ = some (.string (str v.name))
  k3 : w.cell? ⟨(a.add (i * 4)).block, (a.add (i * 4)).off + 3, none⟩ = some (.string (str v.text))
  c0 : w.cell? ⟨q, 0, none⟩ = some O
  f0 : w.frozen? ⟨q, 0, none⟩ = false
  c1 : w.cell? ⟨q, 1, none⟩ = some (.slice (some a) len cap)
  b0 : (0 : Int) ≤ (i : Int)
  b1 : (i : Int) < (len : Int)
  hq : q < w.heap.size

theorem nx_at {w : World} {q B : Nat} {O V : Value} {o : List Nat} {l : List Val} {i : Nat} {v : Val} (S : Sh w q B O V o) (L : Lst w V l) (hv : l[i]? = some v) : ∃ a cap, V = .slice (some a) l.length cap ∧ NxAt w q B O a cap l.length i v := by
  obtain ⟨a, cap, rfl, k0, k1, k2, k3⟩ := L.at hv
  have c := cells_of S.row
  have hl : i < l.length := (List.getElem?_eq_some_iff.1 hv).1
  exact ⟨a, cap, rfl, k0, k1, k2, k3, (c 0).1, (c 0).2, (c 1).1, by omega, by omega, (Array.getElem?_eq_some_iff.1 S.row).1⟩

set_option maxRecDepth 100000 in
set_option maxHeartbeats 2000000 in
/-- The first value, where it may not stand. -/
theorem next_first_no {w : World} {q B : Nat} {O V : Value} {o : List Nat} {l : List Val} {i : Nat} {v : Val} (S : Sh w q B O V o) (L : Lst w V l) (hBw : B ≤ w.heap.size) (hv : l[i]? = some v) (hi : i = 0) (hno : ¬ (v.parent = -1 ∧ v.name = [])) :
    Calls Tryz.prog 116 #[.pointer (some ⟨q, 0, none⟩), .int .i64 i] w (NxPost w q B O V none) := by
  obtain ⟨a, cap, rfl, A⟩ := nx_at S L hv
  obtain ⟨k0, k1, k2, k3, c0, f0, c1, b0, b1, hq⟩ := A
  have hi0 : ((i : Int) == 0) = true := by rw [beq_iff_eq]; omega
  have HB : Hid (Turn (fun k => k = q ∨ O.ownBlock = some k) w (w.alloc (.cells #[.int .i64 v.parent, .int .u8 v.kind, .string (str v.name), .string (str v.text)] 78))) := Lib.hid (Turn.of_below ((Below.refl _ _).alloc (Nat.le_refl _) _))
  clear S L hv hi
  by_cases hp : v.parent = -1
  · have e1 : (v.parent != -1) = false := by rw [bne_eq_false_iff_eq]; exact hp
    have e2 : (str v.name).toList.isEmpty = false := by
      rw [str_empty]
      cases h : v.name with
      | nil => exact absurd ⟨hp, h⟩ hno
      | cons a b => rfl
    clear hp hno
    go_enter Tryz.func116, Tryz.ntmps116
    go_wp2
    go_ret
    exact ⟨HB.out, rfl⟩
  · have e1 : (v.parent != -1) = true := by rw [bne_iff_ne]; exact hp
    clear hp hno
    go_enter Tryz.func116, Tryz.ntmps116
    go_wp2
    go_ret
    exact ⟨HB.out, rfl⟩

theorem Tryz.info3 : (Tryz.prog.info? 3).map (fun i => (i.zero, i.size, i.bytes)) = some (some (.int .i64 0), 1, 8) := by kernel_rfl

/-- The shape's open ones set anew, out of what an append has left. -/
theorem Sh.grown {w w2 : World} {q B : Nat} {O O' V : Value} {o' : List Nat} (hq : w.heap[q]? = some (.cells #[O, V] 172)) (hB : B ≤ q) (hne : O.ownBlock ≠ some q) (hg : w.grownBy w2 O.ownBlock) (hown : w2.ownsRow B 3 1 O' o'.length (ocells o')) :
    Sh (w2.setCell ⟨q, 0, none⟩ O') q B O' V o' := by
  have hr : w2.heap[q]? = some (.cells #[O, V] 172) := (hg.block q (Array.getElem?_eq_some_iff.1 hq).1 (fun e => hne e.symm)).trans hq
  have hne' : O'.ownBlock ≠ some q := by
    intro e
    rcases hown.2 with ⟨h1, _⟩ | ⟨g, cap, cur, h1, _, hg2, _⟩
    · rw [h1] at e; cases e
    · rw [h1] at e
      simp only [Value.ownBlock, Option.some.injEq] at e
      subst e
      rw [hr] at hg2
      simp at hg2
  refine ⟨by simpa using blk_set hr 0 O', ?_, hB⟩
  exact Ints.kept (w := w2) hown (fun k hk => Below.heap_setCell _ _ _ _ (by intro e; exact hne' (hk.trans (by rw [e]))))

set_option maxRecDepth 100000 in
set_option maxHeartbeats 2000000 in
/-- The first value, where it stands. -/
theorem next_first {w : World} {q B : Nat} {O V : Value} {o : List Nat} {l : List Val} {i : Nat} {v : Val} (S : Sh w q B O V o) (L : Lst w V l) (hBw : B ≤ w.heap.size) (hv : l[i]? = some v) (hi : i = 0) (hp : v.parent = -1) (hn : v.name = []) (ho : o.length ≤ 20) :
    Calls Tryz.prog 116 #[.pointer (some ⟨q, 0, none⟩), .int .i64 i] w (NxPost w q B O V (some (stackM v i o))) := by
  obtain ⟨a, cap, rfl, A⟩ := nx_at S L hv
  obtain ⟨k0, k1, k2, k3, c0, f0, c1, b0, b1, hq⟩ := A
  have hi0 : ((i : Int) == 0) = true := by rw [beq_iff_eq]; omega
  have hBel : Turn (fun k => k = q ∨ O.ownBlock = some k) w (w.alloc (.cells #[.int .i64 v.parent, .int .u8 v.kind, .string (str v.name), .string (str v.text)] 78)) := Turn.of_below ((Below.refl _ _).alloc (Nat.le_refl _) _)
  have e1 : (v.parent != -1) = false := by rw [bne_eq_false_iff_eq]; exact hp
  have e2 : (str v.name).toList.isEmpty = true := by rw [str_empty, hn]; rfl
  have HS := Lib.hid S
  have HB := Lib.hid hBel
  clear L hv hi hp hn S hBel
  by_cases h56 : v.kind = 5 ∨ v.kind = 6
  · obtain ⟨i0, hi0', iz0, iz1, iz2⟩ := info_parts Tryz.info3
    have est : stackM v i o = o ++ [i] := by simp [stackM, h56]
    rw [est]
    have e5 : ((v.kind : Int) == 5) = true ∨ (((v.kind : Int) == 5) = false ∧ ((v.kind : Int) == 6) = true) := by
      rcases h56 with h | h
      · left; rw [beq_iff_eq]; omega
      · right; exact ⟨by rw [beq_eq_false_iff_ne]; omega, by rw [beq_iff_eq]; omega⟩
    have hown := HS.out.own
    unfold Ints at hown
    clear h56 est
    rcases e5 with e5 | ⟨e5, e6⟩
    all_goals
      go_enter Tryz.func116, Tryz.ntmps116
      go_wp2_with (at_builtin; refine wpList_append_own _ rfl _ _ 54 rfl B 3 i0 (.int .i64 0) 1 8 Tryz.underlying54 hi0' iz0 iz1 iz2 rfl (by decide) _ _ _ rfl ((hown.alloc _).alloc _) ⟨w.heap.size + 1, 0, none⟩ 1 1 [.int .i64 i] rfl rfl ?c1 ?c2 ?c3 ?c4 ?c5 ?_)
      case c1 =>
        intro j u hj
        match j, hj with
        | 0, hj => simp at hj; subst hj; simp [Addr.add]
      case c2 => intro u hu; simp at hu; subst hu; rfl
      case c3 => unfold maxLen; omega
      case c4 => omega
      case c5 => simp; omega
      intro O' w2 hown' hgrow hnil
      obtain ⟨g, cap', rfl⟩ : ∃ g cap', O' = .slice (some ⟨g, 0, none⟩) (o.length + 1) cap' := by
        rcases hown'.2 with ⟨_, h0⟩ | ⟨g, cap', cur, hv, _⟩
        · omega
        · exact ⟨g, cap', hv⟩
      obtain ⟨o1, ho1⟩ : ∃ o1, (w.alloc (.cells #[.int .i64 v.parent, .int .u8 v.kind, .string (str v.name), .string (str v.text)] 78)).alloc (.cells #[.int .i64 i] 3) = o1 := ⟨_, rfl⟩
      have hrow1 : o1.heap[q]? = some (.cells #[O, .slice (some a) l.length cap] 172) := by
        rw [← ho1, heap_alloc_old _ _ (by simp; omega), heap_alloc_old _ _ hq]; exact HS.out.row
      have hbel1 : Turn (fun k => k = q ∨ O.ownBlock = some k) w o1 := by rw [← ho1]; exact HB.out.trans (Turn.of_below ((Below.refl _ _).alloc (Nat.le_refl _) _))
      have hz1 : w.heap.size ≤ o1.heap.size := by rw [← ho1]; simp; omega
      have hOq : O.ownBlock ≠ some q := by
        intro e
        rcases hown.2 with ⟨h1, _⟩ | ⟨g, cap, cur, h1, _, hg2, _⟩
        · rw [h1] at e; cases e
        · rw [h1] at e
          simp only [Value.ownBlock, Option.some.injEq] at e
          subst e
          rw [HS.out.row] at hg2
          simp at hg2
      rw [ho1] at hgrow
      have hS2 := Sh.grown (B := B) (o' := o ++ [i]) hrow1 HS.out.hB hOq hgrow (by simpa [ocells] using hown')
      have hbel2 : Turn (fun k => k = q ∨ O.ownBlock = some k) w w2 := hbel1.trans ⟨hgrow.os, hgrow.tape, hgrow.output, hgrow.size, fun k hk hn => hgrow.block k hk (fun e => hn (.inr e.symm))⟩
      have d0 : w2.cell? ⟨q, 0, none⟩ = some O := (World.cell?_of_block (a := ⟨q, 0, none⟩) (w := o1) (w' := w2) (hgrow.block q (by omega) (fun e => hOq e.symm))).trans (cells_of hrow1 0).1
      have d1 : w2.frozen? ⟨q, 0, none⟩ = false := (World.frozen?_of_block (a := ⟨q, 0, none⟩) (w := o1) (w' := w2) (hgrow.block q (by omega) (fun e => hOq e.symm))).trans (cells_of hrow1 0).2
      have HF := Lib.hid (And.intro hS2 hbel2)
      clear hown hown' hgrow hnil ho1 hrow1 hbel1 hS2 hbel2 hOq
      go_wp2
      go_ret
      exact ⟨HF.out.2.trans (turn_set _ q 0 _ _ (.inl rfl)), rfl, _, HF.out.1⟩
  · have est : stackM v i o = o := by simp [stackM, h56]
    rw [est]
    have e5 : ((v.kind : Int) == 5) = false := by rw [beq_eq_false_iff_ne]; omega
    have e6 : ((v.kind : Int) == 6) = false := by rw [beq_eq_false_iff_ne]; omega
    clear h56 est
    go_enter Tryz.func116, Tryz.ntmps116
    go_wp2
    go_ret
    exact ⟨HB.out, rfl, O, (heap_alloc_old _ _ hq).trans HS.out.row, HS.out.own.kept (fun k hk => heap_alloc_old _ _ (World.ownsRow.lt HS.out.own k hk).2), HS.out.hB⟩

set_option maxRecDepth 100000 in
set_option maxHeartbeats 2000000 in
/-- A later value that stands in none that is open. -/
theorem next_none {w : World} {q B : Nat} {O V : Value} {o : List Nat} {l : List Val} {i : Nat} {v : Val} (S : Sh w q B O V o) (L : Lst w V l) (hBw : B ≤ w.heap.size) (hv : l[i]? = some v) (hi : i ≠ 0) (ho : o.length ≤ 20) (hx : ixM o v.parent = none) :
    Calls Tryz.prog 116 #[.pointer (some ⟨q, 0, none⟩), .int .i64 i] w (NxPost w q B O V none) := by
  obtain ⟨a, cap, rfl, A⟩ := nx_at S L hv
  obtain ⟨k0, k1, k2, k3, c0, f0, c1, b0, b1, hq⟩ := A
  have hi0 : ((i : Int) == 0) = false := by rw [beq_eq_false_iff_ne]; omega
  have hBel : Turn (fun k => k = q ∨ O.ownBlock = some k) w (w.alloc (.cells #[.int .i64 v.parent, .int .u8 v.kind, .string (str v.name), .string (str v.text)] 78)) := Turn.of_below ((Below.refl _ _).alloc (Nat.le_refl _) _)
  have hI : Ints (w.alloc (.cells #[.int .i64 v.parent, .int .u8 v.kind, .string (str v.name), .string (str v.text)] 78)) B O o := S.own.kept (fun k hk => heap_alloc_old _ _ (World.ownsRow.lt S.own k hk).2)
  have hcall : ∀ n, Calls Tryz.prog 153 #[O, .int .i64 v.parent] ((w.alloc (.cells #[.int .i64 v.parent, .int .u8 v.kind, .string (str v.name), .string (str v.text)] 78)).drewN n) fun e w' => e = .returned (.int .i64 (-1)) ∧ w' = (w.alloc (.cells #[.int .i64 v.parent, .int .u8 v.kind, .string (str v.name), .string (str v.text)] 78)).drewN n := by
    intro n
    have := index_any (w := (w.alloc (.cells #[.int .i64 v.parent, .int .u8 v.kind, .string (str v.name), .string (str v.text)] 78)).drewN n) (hI.kept (fun k hk => rfl)) (by omega) v.parent
    rw [hx] at this
    exact this
  have HB := Lib.hid hBel
  have HC := Lib.hid hcall
  clear S L hv hi hx hBel hI hcall
  go_enter Tryz.func116, Tryz.ntmps116
  go_wp2_with fail
  go_quiet ((go_at_call 153; exact Calls.quiet_of_same (HC.out _)))
  go_wp2_with fail
  go_quiet (fail)
  go_wp2
  go_ret
  exact ⟨(HB.out.trans (turn_drewN _ _ _)).trans (turn_drewN _ _ _), rfl⟩

theorem alloc_cell_at (w : World) (v : Value) (t : TypeId) (N : Nat) (h : w.heap.size = N) : (w.alloc (.cells #[v] t)).cell? ⟨N, 0, none⟩ = some v := by
  subst h
  exact (cells_of (heap_alloc_new w _) 0).1

theorem next_fin {w W w2 : World} {q B i : Nat} {O O1 O' V : Value} {o1 : List Nat} {x : Obj} (hrow : W.heap[q]? = some (.cells #[O1, V] 172)) (hI : Ints W B O1 o1) (hB : B ≤ q) (hO : O1.ownBlock = O.ownBlock) (hbel : Turn (fun k => k = q ∨ O.ownBlock = some k) w W)
    (hgrow : (W.alloc x).grownBy w2 O1.ownBlock) (hown : w2.ownsRow B 3 1 O' (o1.length + 1) (ocells o1 ++ [.int .i64 i])) :
    (Sh (w2.setCell ⟨q, 0, none⟩ O') q B O' V (o1 ++ [i]) ∧ Turn (fun k => k = q ∨ O.ownBlock = some k) w (w2.setCell ⟨q, 0, none⟩ O')) ∧ w2.cell? ⟨q, 0, none⟩ = some O1 ∧ w2.frozen? ⟨q, 0, none⟩ = false := by
  have hq : q < W.heap.size := (Array.getElem?_eq_some_iff.1 hrow).1
  have hOq : O1.ownBlock ≠ some q := by
    intro e
    rcases hI.2 with ⟨h1, _⟩ | ⟨g, cap, cur, h1, _, hg2, _⟩
    · rw [h1] at e; cases e
    · rw [h1] at e
      simp only [Value.ownBlock, Option.some.injEq] at e
      subst e
      rw [hrow] at hg2
      simp at hg2
  have hrow1 : (W.alloc x).heap[q]? = some (.cells #[O1, V] 172) := (heap_alloc_old _ _ hq).trans hrow
  have hq1 : q < (W.alloc x).heap.size := by simp; omega
  have hb2 := hgrow.block q hq1 (fun e => hOq e.symm)
  refine ⟨⟨Sh.grown hrow1 hB hOq hgrow (by simpa [ocells] using hown), ?_⟩, ?_, ?_⟩
  · refine Turn.trans ?_ (turn_set _ q 0 _ _ (.inl rfl))
    exact (hbel.trans (Turn.of_below ((Below.refl _ _).alloc (Nat.le_refl _) x))).trans ⟨hgrow.os, hgrow.tape, hgrow.output, hgrow.size, fun k hk hn => hgrow.block k hk (fun e => hn (.inr (by rw [← hO]; exact e.symm)))⟩
  · exact (World.cell?_of_block (a := ⟨q, 0, none⟩) (w := W.alloc x) (w' := w2) hb2).trans (cells_of hrow1 0).1
  · exact (World.frozen?_of_block (a := ⟨q, 0, none⟩) (w := W.alloc x) (w' := w2) hb2).trans (cells_of hrow1 0).2

set_option maxRecDepth 100000 in
set_option maxHeartbeats 4000000 in
/-- A later value that stands in an open one. -/
theorem next_some {w : World} {q B : Nat} {O V : Value} {o : List Nat} {l : List Val} {i : Nat} {v : Val} (S : Sh w q B O V o) (L : Lst w V l) (hBw : B ≤ w.heap.size) (hv : l[i]? = some v) (hi : i ≠ 0) (ho : o.length ≤ 20) {k m : Nat} (hx : ixM o v.parent = some k) (hk : k < o.length) (hm : v.parent = (m : Int)) {pv : Val} (hpv : l[m]? = some pv) {r : Option (List Nat)}
    (hr : r = if 16 ≤ k + 1 then none else if v.name ≠ [] ∧ pv.kind ≠ 6 then none else some (stackM v i (o.take (k + 1)))) :
    Calls Tryz.prog 116 #[.pointer (some ⟨q, 0, none⟩), .int .i64 i] w (NxPost w q B O V r) := by
  obtain ⟨a, cap, rfl, A⟩ := nx_at S L hv
  obtain ⟨k0, k1, k2, k3, c0, f0, c1, b0, b1, hq⟩ := A
  obtain ⟨a', cap'', e, p0, p1, -, -⟩ := L.at hpv
  simp only [Value.slice.injEq, Option.some.injEq] at e
  obtain ⟨rfl, -, rfl⟩ := e
  have m0 : (0 : Int) ≤ (m : Int) := by omega
  have nw := World.new_ne w _ p1
  have nlt := World.block_lt_of_cell? w _ p1
  have nq0 : w.heap.size ≠ q := by omega
  have m1 : (m : Int) < (l.length : Int) := by have := (List.getElem?_eq_some_iff.1 hpv).1; omega
  have hi0 : ((i : Int) == 0) = false := by rw [beq_eq_false_iff_ne]; omega
  rw [hm] at k0
  obtain ⟨box, hbox⟩ : ∃ box, (Obj.cells #[.int .i64 m, .int .u8 v.kind, .string (str v.name), .string (str v.text)] 78) = box := ⟨_, rfl⟩
  have hBel : Turn (fun k => k = q ∨ O.ownBlock = some k) w (w.alloc box) := Turn.of_below ((Below.refl _ _).alloc (Nat.le_refl _) _)
  have hI : Ints (w.alloc box) B O o := S.own.kept (fun k hk => heap_alloc_old _ _ (World.ownsRow.lt S.own k hk).2)
  have hrow : (w.alloc box).heap[q]? = some (.cells #[O, .slice (some a) l.length cap] 172) := (heap_alloc_old _ _ hq).trans S.row
  have hcall : ∀ n, Calls Tryz.prog 153 #[O, .int .i64 m] ((w.alloc box).drewN n) fun e w' => e = .returned (.int .i64 k) ∧ w' = (w.alloc box).drewN n := by
    intro n
    have := index_any (w := (w.alloc box).drewN n) (hI.kept (fun k hk => rfl)) (by omega) v.parent
    rw [hx, hm] at this
    exact this
  subst hbox
  have HB := Lib.hid hBel
  have HC := Lib.hid hcall
  have HI := Lib.hid (And.intro hI hrow)
  have HQ := Lib.hid S.hB
  have hk20 : k < 20 := by omega
  have hkn : decide ((k : Int) < 0) = false := by simp
  have hw : IntKind.i64.wrap ((k : Int) + 1) = (k : Int) + 1 := IntWalk.i64_in _ (by omega)
  clear S L hv hi hx hBel hI hcall hpv hrow hm
  by_cases h16 : 16 ≤ k + 1
  · have g1 : decide ((16 : Int) ≤ (k : Int) + 1) = true := by simp; omega
    rw [if_pos h16] at hr
    subst hr
    clear h16
    go_enter Tryz.func116, Tryz.ntmps116
    go_wp2_with fail
    go_quiet ((go_at_call 153; exact Calls.quiet_of_same (HC.out _)))
    go_wp2_with fail
    go_quiet (fail)
    go_wp2
    go_ret
    exact ⟨(HB.out.trans (turn_drewN _ _ _)).trans (turn_drewN _ _ _), rfl⟩
  have g1 : decide ((16 : Int) ≤ (k : Int) + 1) = false := by simp; omega
  rw [if_neg h16] at hr
  by_cases hbad : v.name ≠ [] ∧ pv.kind ≠ 6
  · have e2 : (str v.name).toList.isEmpty = false := by
      rw [str_empty]
      cases h : v.name with
      | nil => exact absurd h hbad.1
      | cons a b => rfl
    have e3 : ((pv.kind : Int) != 6) = true := by rw [bne_iff_ne]; have := hbad.2; omega
    rw [if_pos hbad] at hr
    subst hr
    clear hbad h16
    go_enter Tryz.func116, Tryz.ntmps116
    go_wp2_with fail
    go_quiet ((go_at_call 153; exact Calls.quiet_of_same (HC.out _)))
    go_wp2_with fail
    go_quiet (fail)
    go_wp2
    go_ret
    exact ⟨(HB.out.trans (turn_drewN _ _ _)).trans (turn_drewN _ _ _), rfl⟩
  · rw [if_neg hbad] at hr
    subst hr
    obtain ⟨o1, ho1⟩ : ∃ o1, o.take (k + 1) = o1 := ⟨_, rfl⟩
    have hl1 : o1.length = k + 1 := by rw [← ho1]; simp; omega
    rw [ho1]
    obtain ⟨i0, hi0', iz0, iz1, iz2⟩ := info_parts Tryz.info3
    have ename : (str v.name).toList.isEmpty = true ∨ ((str v.name).toList.isEmpty = false ∧ ((pv.kind : Int) != 6) = false) := by
      rw [str_empty]
      cases h : v.name with
      | nil => left; rfl
      | cons a b =>
        right
        refine ⟨rfl, ?_⟩
        rw [bne_eq_false_iff_eq]
        have h1 : ¬ pv.kind ≠ 6 := fun h2 => hbad ⟨by rw [h]; simp, h2⟩
        omega
    have hne : o ≠ [] := by rintro rfl; simp at hk
    obtain ⟨g0, capO, rfl, hcapO, hcsO⟩ := HI.out.1.form
    have hkc : (k : Int) + 1 ≤ (capO : Int) := by omega
    have hkc0 : (0 : Int) ≤ (k : Int) + 1 := by omega
    have hkc1 : ((k : Int) + 1).toNat = k + 1 := by omega
    have ekind : (((v.kind : Int) == 5) = false ∧ ((v.kind : Int) == 6) = false ∧ stackM v i o1 = o1) ∨ ((((v.kind : Int) == 5) = true ∨ (((v.kind : Int) == 5) = false ∧ ((v.kind : Int) == 6) = true)) ∧ stackM v i o1 = o1 ++ [i]) := by
      by_cases h56 : v.kind = 5 ∨ v.kind = 6
      · right
        refine ⟨?_, by simp [stackM, h56]⟩
        rcases h56 with h | h
        · left; rw [beq_iff_eq]; omega
        · right; exact ⟨by rw [beq_eq_false_iff_ne]; omega, by rw [beq_iff_eq]; omega⟩
      · left
        exact ⟨by rw [beq_eq_false_iff_ne]; omega, by rw [beq_eq_false_iff_ne]; omega, by simp [stackM, h56]⟩
    have hw3 : ∀ n, (((w.alloc (.cells #[.int .i64 m, .int .u8 v.kind, .string (str v.name), .string (str v.text)] 78)).drewN n).setCell ⟨q, 0, none⟩ (.slice g0 (k + 1) capO)).heap[q]? = some (.cells #[.slice g0 (k + 1) capO, .slice (some a) l.length cap] 172) := by
      intro n
      simpa using blk_set (w := (w.alloc (.cells #[.int .i64 m, .int .u8 v.kind, .string (str v.name), .string (str v.text)] 78)).drewN n) HI.out.2 0 (.slice g0 (k + 1) capO)
    have hgq : ∀ k', (Value.slice g0 o.length capO).ownBlock = some k' → k' ≠ q := by
      intro k' e h
      subst h
      rcases HI.out.1.2 with ⟨h1, _⟩ | ⟨g, cap, cur, h1, _, hg2, _⟩
      · rw [h1] at e; cases e
      · rw [h1] at e
        simp only [Value.ownBlock, Option.some.injEq] at e
        subst e
        rw [HI.out.2] at hg2
        simp at hg2
    have hI3 : ∀ n, Ints (((w.alloc (.cells #[.int .i64 m, .int .u8 v.kind, .string (str v.name), .string (str v.text)] 78)).drewN n).setCell ⟨q, 0, none⟩ (.slice g0 (k + 1) capO)) B (.slice g0 (k + 1) capO) o1 := by
      intro n
      rw [← ho1]
      refine (HI.out.1.take (k + 1) (by omega) hne).kept (fun k' hk' => ?_)
      refine Below.heap_setCell _ _ _ _ ?_
      have : (Value.slice g0 o.length capO).ownBlock = (Value.slice g0 (k + 1) capO).ownBlock := by cases g0 <;> rfl
      exact hgq k' (this.trans hk')
    have H3 := Lib.hid (And.intro hw3 hI3)
    have HK := Lib.hid ekind
    have HL := Lib.hid hl1
    clear ho1 hl1 hbad h16 hw3 hI3 hcsO hgq hne ekind
    rcases HK.out with ⟨e5, e6, est⟩ | ⟨e56, est⟩
    · rw [est]
      clear HK est
      rcases ename with e2 | ⟨e2, e3⟩
      all_goals
        go_enter Tryz.func116, Tryz.ntmps116
        go_wp2_with fail
        go_quiet ((go_at_call 153; exact Calls.quiet_of_same (HC.out _)))
        go_wp2_with fail
        go_quiet (fail)
        go_wp2
        go_ret
        exact ⟨(HB.out.trans (turn_drewN _ _ _)).trans (turn_set _ q 0 _ _ (.inl rfl)), rfl, _, H3.out.1 _, H3.out.2 _, HQ.out⟩
    · rw [est]
      clear HK est
      rcases e56 with e5 | ⟨e5, e6⟩ <;> rcases ename with e2 | ⟨e2, e3⟩
      all_goals
        go_enter Tryz.func116, Tryz.ntmps116
        go_wp2_with fail
        go_quiet ((go_at_call 153; exact Calls.quiet_of_same (HC.out _)))
        go_wp2_with fail
        go_quiet (fail)
        have hlk : o1.length ≤ 20 := by have := HL.out; omega
        go_wp2_with (at_builtin; refine wpList_append_own _ rfl _ _ 54 rfl B 3 i0 (.int .i64 0) 1 8 Tryz.underlying54 hi0' iz0 iz1 iz2 rfl (by decide) _ _ _ rfl (World.ownsRow.alloc (H3.out.2 _) _) ⟨w.heap.size + 1, 0, none⟩ 1 1 [.int .i64 i] rfl rfl ?_ ?_ ?_ ?_ ?_ ?_)
        · intro j u hj
          match j, hj with
          | 0, hj => simp at hj; subst hj; exact alloc_cell_at _ _ _ _ (by simp [World.setCell])
        · intro u hu; simp at hu; subst hu; rfl
        · unfold maxLen; omega
        · omega
        · simp; omega
        intro O' w2 hown' hgrow hnil
        obtain ⟨g, cap', rfl⟩ : ∃ g cap', O' = .slice (some ⟨g, 0, none⟩) (o1.length + 1) cap' := by
          rcases hown'.2 with ⟨_, h0⟩ | ⟨g, cap', cur, hv, _⟩
          · omega
          · exact ⟨g, cap', hv⟩
        obtain ⟨hF, d0, d1⟩ := next_fin (w := w) (O := .slice g0 o.length capO) (H3.out.1 _) (H3.out.2 _) HQ.out (by cases g0 <;> rfl) ((HB.out.trans (turn_drewN _ _ _)).trans (turn_set _ q 0 _ _ (.inl rfl))) hgrow hown'
        have HF := Lib.hid hF
        clear hown' hgrow hnil hF
        go_wp2
        go_ret
        exact ⟨HF.out.2, rfl, _, HF.out.1⟩

theorem ixM_at {o : List Nat} {p : Int} {k : Nat} (h : ixM o p = some k) : ∃ hk : k < o.length, ((o[k] : Nat) : Int) = p := by
  unfold ixM at h
  rw [List.findIdx?_eq_some_iff_getElem] at h
  obtain ⟨hk, h1, _⟩ := h
  exact ⟨hk, by simpa using h1⟩

/-- May the value i stand where it does? -/
theorem next_any {w : World} {q B : Nat} {O V : Value} {o : List Nat} {l : List Val} {i : Nat} {v : Val} (S : Sh w q B O V o) (L : Lst w V l) (hBw : B ≤ w.heap.size) (hv : l[i]? = some v) (ho : o.length ≤ 20) (hin : ∀ m ∈ o, m < l.length) :
    Calls Tryz.prog 116 #[.pointer (some ⟨q, 0, none⟩), .int .i64 i] w (NxPost w q B O V (nextM l o i v)) := by
  by_cases hi : i = 0
  · by_cases h : v.parent = -1 ∧ v.name = []
    · have e : nextM l o i v = some (stackM v i o) := by simp [nextM, hi, h]
      rw [e]
      exact next_first S L hBw hv hi h.1 h.2 ho
    · have e : nextM l o i v = none := by simp only [nextM, hi, if_true]; rw [if_neg h]
      rw [e]
      exact next_first_no S L hBw hv hi h
  · cases hx : ixM o v.parent with
    | none =>
      have e : nextM l o i v = none := by simp [nextM, hi, hx]
      rw [e]
      exact next_none S L hBw hv hi ho hx
    | some k =>
      obtain ⟨hk, hp⟩ := ixM_at hx
      have hm : o[k] < l.length := hin _ (List.getElem_mem hk)
      refine next_some S L hBw hv hi ho hx hk hp.symm (List.getElem?_eq_getElem hm) ?_
      simp only [nextM, hi, if_false, hx]
      simp [List.getD_eq_getElem?_getD, hk, hm]
end Go.Proofs.YtcdeikhfmllkdaaGreatDoor
