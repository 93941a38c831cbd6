import Derived.Test.YtcdeikhfmllkdaaGreatDoorSe1
import Derived.Lib.SliceRun
import Derived.Lib.Walk
import Derived.Test.YtcdeikhfmllkdaaGreatDoorSeF
import Derived.Test.YtcdeikhfmllkdaaGreatDoorRwH
/- slices.Clone of pairs. -/
namespace Go.Proofs.YtcdeikhfmllkdaaGreatDoor
open Go.RowKit
set_option linter.unusedVariables false
set_option linter.unusedSimpArgs false
/-- The cells of pairs. -/
def pcells : List (Bytes × Bytes) → List Value
  | [] => []
  | p :: l => .string (str p.1) :: .string (str p.2) :: pcells l
theorem pcells_len : ∀ l, (pcells l).length = l.length * 2
  | [] => rfl
  | p :: l => by simp [pcells, pcells_len l]; omega
theorem pcells_at : ∀ {l : List (Bytes × Bytes)} {i : Nat} {x : Bytes × Bytes}, l[i]? = some x → (pcells l)[i * 2]? = some (.string (str x.1)) ∧ (pcells l)[i * 2 + 1]? = some (.string (str x.2))
  | [], i, x, h => by simp at h
  | p :: l, 0, x, h => by simp only [List.getElem?_cons_zero, Option.some.injEq] at h; subst h; exact ⟨rfl, rfl⟩
  | p :: l, i + 1, x, h => by
    obtain ⟨h1, h2⟩ := pcells_at (l := l) (i := i) (x := x) (by simpa using h)
    refine ⟨?_, ?_⟩
    · rw [show (i + 1) * 2 = i * 2 + 2 by omega]; exact h1
    · rw [show (i + 1) * 2 + 1 = i * 2 + 1 + 2 by omega]; exact h2
theorem pcells_one : ∀ {l : List (Bytes × Bytes)} {u : Value}, u ∈ pcells l → u.oneCell' = true
  | p :: l, u, h => by
    simp only [pcells, List.mem_cons] at h
    rcases h with rfl | rfl | h
    · rfl
    · rfl
    · exact pcells_one h
theorem prs_news {w : World} {a : Addr} {cap : Nat} {l : List (Bytes × Bytes)} (L : PrsC w (.slice (some a) l.length cap) l) : ∀ j u, (pcells l)[j]? = some u → w.cell? (a.add j) = some u := by
  intro j u hu
  have hj := (List.getElem?_eq_some_iff.1 hu).1
  rw [pcells_len] at hj
  obtain ⟨x, hx⟩ : ∃ x, l[j / 2]? = some x := ⟨_, List.getElem?_eq_getElem (by omega)⟩
  obtain ⟨a', cap', e, k0, k1⟩ := L.at hx
  simp only [Value.slice.injEq, Option.some.injEq] at e
  obtain ⟨rfl, -, rfl⟩ := e
  obtain ⟨e0, e1⟩ := pcells_at hx
  rcases Nat.mod_two_eq_zero_or_one j with hm | hm
  · have hjj : j / 2 * 2 = j := by omega
    rw [hjj] at e0 k0
    rw [e0] at hu
    cases hu
    exact k0
  · have hjj : j / 2 * 2 + 1 = j := by omega
    rw [← add_addj a (j / 2 * 2) 1 (by omega), hjj] at k1
    rw [hjj, hu] at e1
    cases e1
    exact k1
theorem prs_own {w : World} {B : Nat} {V : Value} {l : List (Bytes × Bytes)} (h : w.ownsRow B 134 2 V l.length (pcells l)) : PrsC w V l := by
  obtain ⟨p, cap, rfl⟩ := ownsRow_form h
  refine ⟨⟨p, cap, rfl⟩, fun i x hi => ?_⟩
  obtain ⟨e0, e1⟩ := pcells_at hi
  have hlt := (List.getElem?_eq_some_iff.1 hi).1
  rcases h.2 with ⟨_, hn⟩ | ⟨g, cap', cur, e, hb', hg', hc, hm, hsz, ht⟩
  · omega
  · simp only [Value.slice.injEq, Option.some.injEq] at e
    obtain ⟨rfl, -, rfl⟩ := e
    have hcell : ∀ j v, (pcells l)[j]? = some v → w.cell? ⟨g, j, none⟩ = some v := fun j v hj => by
      rw [(cells_of hg' j).1, ← Array.getElem?_toList]
      rw [← ht, List.getElem?_take] at hj
      split at hj
      · exact hj
      · cases hj
    refine ⟨⟨g, 0, none⟩, l.length, cap, rfl, ?_, ?_⟩
    · rw [Addr.add_mid, Nat.zero_add]; exact hcell _ _ e0
    · rw [Addr.add_mid, Nat.zero_add]; exact hcell _ _ e1
set_option maxRecDepth 100000 in
set_option maxHeartbeats 2000000 in
theorem clone_any {w : World} {V : Value} {l : List (Bytes × Bytes)} (L : PrsC w V l) (hl : l.length ≤ 1000000) :
    Calls Tryz.prog 80 #[V] w fun e w' => ∃ V', e = .returned V' ∧ w'.ownsRow w.heap.size 134 2 V' l.length (pcells l) ∧ Below w.heap.size w w' := by
  obtain ⟨p, cap, rfl⟩ := L.form
  have q63 : ∀ (w : World) (a : Option Addr) (n c n' c' : Nat), (binOp .eql 63 (.slice a n c) (.slice none n' c')).run Tryz.prog w = .ok (.bool a.isNone) w := fun w a n c n' c' => Lib.run_eql_slice_nil w _ _ a n c n' c' Tryz.underlying63
  cases p with
  | none =>
    have hl0 : l = [] := by
      cases l with
      | nil => rfl
      | cons x l =>
        obtain ⟨a, cap', e, _⟩ := L.at (i := 0) (x := x) rfl
        simp at e
    subst hl0
    clear L
    go_enter Tryz.func80, Tryz.ntmps80
    go_wp2_with fail
    go_ret
    exact ⟨_, rfl, World.ownsRow_nil _ _ _ _, Below.refl _ _⟩
  | some a =>
    obtain ⟨i0, hi0, iz0, iz1, iz2⟩ := info_parts Tryz.info134
    have HN := Lib.hid (prs_news L)
    clear L
    go_enter Tryz.func80, Tryz.ntmps80
    go_wp2_with (at_builtin; refine wpList_append_own _ rfl _ _ 63 rfl w.heap.size 134 i0 _ 2 32 Tryz.underlying63 hi0 iz0 iz1 iz2 rfl (by omega) _ _ _ rfl (World.ownsRow_made w #[] 0 (Nat.le_refl _) (Nat.zero_le _) (by simp)) a l.length cap (pcells l) rfl ?qc1 ?qc2 ?qc3 ?qc4 ?qc5 ?qc6 ?_)
    case qc1 => exact pcells_len l
    case qc2 => exact fun j u hj => Lib.cell?_alloc_some _ (HN.out j u hj)
    case qc3 => exact fun u hu => pcells_one hu
    case qc4 => rw [Nat.zero_add]; unfold maxLen; omega
    case qc5 => omega
    case qc6 => simp
    intro v' w1 hown hgrow hnil
    have H1 := Lib.hid (And.intro hown hgrow)
    clear hown hgrow hnil
    go_wp2_with fail
    go_ret
    refine ⟨v', rfl, by simpa using H1.out.1, ?_⟩
    exact ((Below.refl _ w).alloc (Nat.le_refl _) _).grown H1.out.2 (by simp) (by intro k hk; simp [Value.ownBlock] at hk; omega)
end Go.Proofs.YtcdeikhfmllkdaaGreatDoor

/- request.Select. -/
namespace Go.Proofs.YtcdeikhfmllkdaaGreatDoor
open Go.RowKit
set_option linter.unusedVariables false
set_option linter.unusedSimpArgs false
theorem ownsRow_type {w w' : World} {B E sz n : Nat} {V : Value} {cs : List Value} (h : w.ownsRow B E sz V n cs) (hk : ∀ (g : Nat) (cur : Array Value), w.heap[g]? = some (.cells cur E) → w'.heap[g]? = w.heap[g]?) : w'.ownsRow B E sz V n cs := by
  refine ⟨h.1, ?_⟩
  rcases h.2 with hn | ⟨g', cap, cur, e, hb', hg', rest⟩
  · exact .inl hn
  · exact .inr ⟨g', cap, cur, e, hb', (hk _ _ hg').trans hg', rest⟩
/-- Alerts in line, their labels in slices of their own. -/
inductive AlsO (w : World) : List AlM → List Value → Prop
  | nil : AlsO w [] []
  | snoc {l : List AlM} {cs : List Value} {a : AlM} {Lv : Value} (h : AlsO w l cs) (hL : w.ownsRow 0 134 2 Lv a.labels.length (pcells a.labels)) : AlsO w (l ++ [a]) (cs ++ [Lv, .int .i64 a.start, .int .i64 a.stop])
theorem AlsO.kept {w w' : World} {l : List AlM} {cs : List Value} (h : AlsO w l cs) (hk : ∀ (g : Nat) (cur : Array Value), w.heap[g]? = some (.cells cur 134) → w'.heap[g]? = w.heap[g]?) : AlsO w' l cs := by
  induction h with
  | nil => exact .nil
  | snoc h hL ih => exact .snoc ih (ownsRow_type hL hk)
theorem AlsO.bel {w w' : World} {l : List AlM} {cs : List Value} (h : AlsO w l cs) (b : Below w.heap.size w w') : AlsO w' l cs :=
  h.kept (fun g cur hg => b.block g (Array.getElem?_eq_some_iff.1 hg).1)
theorem AlsO.len {w : World} {l : List AlM} {cs : List Value} (h : AlsO w l cs) : cs.length = l.length * 3 := by
  induction h with
  | nil => rfl
  | snoc h hL ih => rw [List.length_append, List.length_append, ih]; simp; omega
theorem AlsO.at {w : World} {l : List AlM} {cs : List Value} (h : AlsO w l cs) {i : Nat} {x : AlM} (hi : l[i]? = some x) :
    ∃ Lv, w.ownsRow 0 134 2 Lv x.labels.length (pcells x.labels) ∧ cs[i * 3]? = some Lv ∧ cs[i * 3 + 1]? = some (.int .i64 x.start) ∧ cs[i * 3 + 2]? = some (.int .i64 x.stop) := by
  induction h with
  | nil => simp at hi
  | @snoc l cs a Lv h hL ih =>
    have hl := h.len
    by_cases he : i < l.length
    · rw [List.getElem?_append_left he] at hi
      obtain ⟨p', h1, h2, h3, h4⟩ := ih hi
      exact ⟨p', h1, by rw [List.getElem?_append_left (by omega)]; exact h2, by rw [List.getElem?_append_left (by omega)]; exact h3, by rw [List.getElem?_append_left (by omega)]; exact h4⟩
    · have hlt := (List.getElem?_eq_some_iff.1 hi).1
      rw [List.length_append, List.length_singleton] at hlt
      obtain rfl : i = l.length := by omega
      rw [List.getElem?_append_right (by omega), Nat.sub_self] at hi
      simp only [List.getElem?_cons_zero, Option.some.injEq] at hi
      subst hi
      refine ⟨Lv, hL, ?_, ?_, ?_⟩
      · rw [List.getElem?_append_right (by omega), show l.length * 3 - cs.length = 0 by omega]; rfl
      · rw [List.getElem?_append_right (by omega), show l.length * 3 + 1 - cs.length = 1 by omega]; rfl
      · rw [List.getElem?_append_right (by omega), show l.length * 3 + 2 - cs.length = 2 by omega]; rfl
theorem als_own {w : World} {B : Nat} {V : Value} {l : List AlM} {cs : List Value} (h : w.ownsRow B 65 3 V l.length cs) (hs : AlsO w l cs) : AlsC w V l := by
  obtain ⟨p, cap, rfl⟩ := ownsRow_form h
  refine ⟨⟨p, cap, rfl⟩, fun i x hi => ?_⟩
  obtain ⟨Lv, hL, e0, e1, e2⟩ := hs.at hi
  have hlt := (List.getElem?_eq_some_iff.1 hi).1
  rcases h.2 with ⟨_, hn⟩ | ⟨g, cap', cur, e, hb', hg', hc, hm, hsz, ht⟩
  · omega
  · simp only [Value.slice.injEq, Option.some.injEq] at e
    obtain ⟨rfl, -, rfl⟩ := e
    have hcell : ∀ j v, cs[j]? = some v → w.cell? ⟨g, j, none⟩ = some v := fun j v hj => by
      rw [(cells_of hg' j).1, ← Array.getElem?_toList]
      rw [← ht, List.getElem?_take] at hj
      split at hj
      · exact hj
      · cases hj
    refine ⟨⟨g, 0, none⟩, l.length, cap, Lv, rfl, ?_, prs_own hL, ?_, ?_⟩
    · rw [Addr.add_mid, Nat.zero_add]; exact hcell _ _ e0
    · rw [Addr.add_mid, Nat.zero_add]; exact hcell _ _ e1
    · rw [Addr.add_mid, Nat.zero_add]; exact hcell _ _ e2
def selM (ms : List MtM) (l : List AlM) : List AlM := l.filter (fun a => mallM ms a.labels)
structure SlRel (w wr : World) (V : Value) (ms : List MtM) (l : List AlM) (n : Nat) (out : List AlM) : Prop where
  own : ∃ cs, wr.ownsRow w.heap.size 65 3 V out.length cs ∧ AlsO wr out cs
  eq : out = selM ms (l.take n)
  bel : Below w.heap.size w wr
theorem selM_snoc {ms : List MtM} {l : List AlM} {n : Nat} {x : AlM} (h : l[n]? = some x) : selM ms (l.take (n + 1)) = selM ms (l.take n) ++ (if mallM ms x.labels then [x] else []) := by
  have hlt := (List.getElem?_eq_some_iff.1 h).1
  rw [List.take_succ_eq_append_getElem hlt, (List.getElem?_eq_some_iff.1 h).2]
  unfold selM
  rw [List.filter_append]
  cases hm : mallM ms x.labels <;> simp [hm]
/-- A round that takes nothing. -/
theorem SlRel.skip {w wr w' : World} {V : Value} {ms : List MtM} {l : List AlM} {n : Nat} {out : List AlM} {x : AlM} (H : SlRel w wr V ms l n out) (h : l[n]? = some x) (hf : mallM ms x.labels = false) (b : Below wr.heap.size wr w') : SlRel w w' V ms l (n + 1) out := by
  obtain ⟨cs, h1, h2⟩ := H.own
  refine ⟨⟨cs, ownsRow_below h1 b, h2.bel b⟩, ?_, H.bel.trans (b.mono H.bel.size)⟩
  rw [selM_snoc h, hf, H.eq]; simp
/-- A round that takes an alert. -/
theorem SlRel.take {w wr w3 w4 w5 : World} {V V5 La : Value} {ms : List MtM} {l : List AlM} {n g cap : Nat} {out : List AlM} {cs : List Value} {x : AlM} (H : SlRel w wr V ms l n out) (ho : wr.ownsRow w.heap.size 65 3 V out.length cs) (hs : AlsO wr out cs) (h : l[n]? = some x) (ht : mallM ms x.labels = true)
    (b3 : Below wr.heap.size wr w3) (hg : w3.grownBy w4 V.ownBlock) (hown : w4.ownsRow w.heap.size 65 3 (.slice (some ⟨g, 0, none⟩) (out.length + 1) cap) (out.length + 1) (cs ++ [La, .int .i64 x.start, .int .i64 x.stop]))
    (b5 : Below w4.heap.size w4 w5) (hL : w5.ownsRow w4.heap.size 134 2 V5 x.labels.length (pcells x.labels)) (h1 : V5.oneCell' = true) :
    SlRel w (w5.setCell ⟨g, out.length * 3, none⟩ V5) (.slice (some ⟨g, 0, none⟩) (out.length + 1) cap) ms l (n + 1) (out ++ [x]) := by
  have hcl := hs.len
  have ho3 := ownsRow_below ho b3
  have hs4 : AlsO w4 out cs := (hs.bel b3).kept (fun k cur hk => hg.block k (Array.getElem?_eq_some_iff.1 hk).1 (fun e => by
    rcases ho3.2 with ⟨hn, _⟩ | ⟨g', cap', cur', e', hb', hg', _⟩
    · rw [hn] at e; cases e
    · rw [e'] at e
      simp only [Value.ownBlock, Option.some.injEq] at e
      rw [e, hg'] at hk
      simp at hk))
  have hown5 := ownsRow_below hown b5
  have hgrow : ∃ cur, w5.heap[g]? = some (.cells cur 65) := by
    rcases hown5.2 with ⟨hn, _⟩ | ⟨g', cap', cur', e', hb', hg', _⟩
    · cases hn
    · simp only [Value.slice.injEq, Option.some.injEq, Addr.mk.injEq] at e'
      obtain ⟨⟨rfl, -, -⟩, -, -⟩ := e'
      exact ⟨_, hg'⟩
  obtain ⟨cur5, hcur5⟩ := hgrow
  have hk5 : ∀ (k : Nat) (cur : Array Value), w5.heap[k]? = some (.cells cur 134) → (w5.setCell ⟨g, out.length * 3, none⟩ V5).heap[k]? = w5.heap[k]? := fun k cur hk => Below.heap_setCell _ _ _ _ (by
    show k ≠ g
    rintro rfl
    rw [hcur5] at hk
    simp at hk)
  have hset := ownsRow_set hown5 (out.length * 3) V5 (by rw [List.length_append]; simp; omega) h1
  have hcs : (cs ++ [La, Value.int .i64 x.start, .int .i64 x.stop]).set (out.length * 3) V5 = cs ++ [V5, .int .i64 x.start, .int .i64 x.stop] := by
    rw [List.set_append_right _ _ (by omega), show out.length * 3 - cs.length = 0 by omega]; rfl
  rw [hcs] at hset
  have hgw : w.heap.size ≤ g := (World.ownsRow.lt hown g rfl).1
  refine ⟨⟨_, ?_, .snoc ((hs4.bel b5).kept hk5) (ownsRow_type (ownsRow_zero hL) hk5)⟩, ?_, ?_⟩
  · rw [List.length_append]; exact hset
  · rw [selM_snoc h, ht, ← H.eq]; simp
  · have bw4 : Below w.heap.size w w4 := (H.bel.trans (b3.mono H.bel.size)).grown hg (H.bel.trans (b3.mono H.bel.size)).size (fun k hk => (World.ownsRow.lt ho3 k hk).1)
    exact (bw4.trans (b5.mono bw4.size)).setCell (p := ⟨g, out.length * 3, none⟩) hgw _
theorem ownsRow_one {w : World} {B E sz n : Nat} {V : Value} {cs : List Value} (h : w.ownsRow B E sz V n cs) : V.oneCell' = true := by
  obtain ⟨p, cap, rfl⟩ := ownsRow_form h; rfl
theorem SlRel.mid {w wr w3 w4 : World} {V : Value} {n b : Nat} {cs : List Value} {cb : Array Value} (ho : wr.ownsRow w.heap.size 65 3 V n cs) (b3 : Below wr.heap.size wr w3) (hg : w3.grownBy w4 V.ownBlock) (hb : w3.heap[b]? = some (.cells cb 65)) (hbn : wr.heap.size ≤ b) : w4.heap[b]? = some (.cells cb 65) :=
  (hg.block b (Array.getElem?_eq_some_iff.1 hb).1 (fun e => by have := World.ownsRow.lt ho b e.symm; omega)).trans hb
theorem SlRel.few {w wr : World} {V : Value} {ms : List MtM} {l : List AlM} {n : Nat} {out : List AlM} (H : SlRel w wr V ms l n out) (hn : n ≤ l.length) : out.length ≤ n := by
  rw [H.eq]
  refine Nat.le_trans (List.length_filter_le _ _) ?_
  rw [List.length_take]; omega
theorem own_cell {w : World} {B E sz n g cap : Nat} {cs : List Value} (h : w.ownsRow B E sz (.slice (some ⟨g, 0, none⟩) n cap) n cs) {j : Nat} (hj : j < n * sz) : (∃ v, w.cell? ⟨g, j, none⟩ = some v) ∧ w.frozen? ⟨g, j, none⟩ = false := by
  rcases h.2 with ⟨hn, _⟩ | ⟨g', cap', cur, e, hb', hg', hc, hm, hsz, ht⟩
  · cases hn
  · simp only [Value.slice.injEq, Option.some.injEq, Addr.mk.injEq] at e
    obtain ⟨⟨rfl, -, -⟩, -, rfl⟩ := e
    have hlt : j < cur.size := by
      have := Nat.mul_le_mul_right sz hc
      omega
    exact ⟨⟨cur[j], by rw [(cells_of hg' _).1, Array.getElem?_eq_getElem hlt]⟩, (cells_of hg' _).2⟩
structure AlFew (a : AlM) : Prop where
  len : a.labels.length ≤ 1000000
  val : ∀ p ∈ a.labels, p.2.length ≤ maxLen
set_option maxRecDepth 100000 in
set_option maxHeartbeats 8000000 in
theorem select_any {w : World} {Vl M : Value} {l : List AlM} {ms : List MtM} (L : AlsC w Vl l) (hf : ∀ a ∈ l, AlFew a) (hl : l.length ≤ 1000000) (hM : MtsC w M ms) (hok : ∀ m ∈ ms, MtOk m) (hml : ms.length ≤ maxLen) :
    Calls Tryz.prog 30 #[Vl, M] w fun e w' => (∃ V, e = .returned V ∧ AlsC w' V (selM ms l)) ∧ Below w.heap.size w w' := by
  obtain ⟨p, cap, rfl⟩ := L.form
  obtain ⟨pm, cm, rfl⟩ := hM.form
  obtain ⟨i0, hi0, iz0, iz1, iz2⟩ := info_parts Tryz.info65
  have HA := Lib.hid (fun (w1 : World) (b : Below w.heap.size w w1) (a : AlM) (La : Value) (hL : PrsC w1 La a.labels) (ha : AlFew a) => mall_any (hM.below (Nat.le_refl _) b) hok hml hL (Nat.le_trans ha.len (by unfold maxLen; omega)) ha.val)
  have HL := Lib.hid (And.intro L hf)
  have H0 : Hid (SlRel w w (.slice none 0 0) ms l 0 []) := Lib.hid ⟨⟨[], World.ownsRow_nil _ _ _ _, .nil⟩, by simp [selM], Below.refl _ _⟩
  clear L hf hM hok
  go_enter Tryz.func30, Tryz.ntmps30
  go_wp2_with fail
  go_loopw [5, 10] (fun v5 v10 wr => ∃ (n : Nat) (out : List AlM), v10 = .int .i64 n ∧ n ≤ l.length ∧ SlRel w wr v5 ms l n out) (fun _ v _ => l.length - (intOf v).toNat)
  case atStart => exact ⟨0, [], rfl, by omega, H0.out⟩
  case round =>
    obtain ⟨n, out, rfl, hn, hr⟩ := hrel
    obtain ⟨cs, ho, hs⟩ := hr.own
    obtain ⟨pV, cV, rfl⟩ := ownsRow_form ho
    have HR := Lib.hid (And.intro hr (And.intro ho hs))
    clear hr ho hs H0
    by_cases hlt : n < l.length
    · obtain ⟨x, hx⟩ : ∃ x, l[n]? = some x := ⟨_, List.getElem?_eq_getElem hlt⟩
      obtain ⟨a, cap', La, e, k0w, kP, k1w, k2w⟩ := HL.out.1.at hx
      have k0 := (HR.out.1.bel.cell (World.block_lt_of_cell? w _ k0w)).trans k0w
      have k1 := (HR.out.1.bel.cell (World.block_lt_of_cell? w _ k1w)).trans k1w
      have k2 := (HR.out.1.bel.cell (World.block_lt_of_cell? w _ k2w)).trans k2w
      clear k0w k1w k2w
      simp only [Value.slice.injEq] at e
      obtain ⟨rfl, -, rfl⟩ := e
      obtain ⟨pL, cL, rfl⟩ := kP.form
      have hxf := HL.out.2 x (List.mem_of_getElem? hx)
      have hb2 := (Below.refl wr.heap.size wr).alloc (Nat.le_refl _) (.cells #[.slice pL x.labels.length cL, .int .i64 x.start, .int .i64 x.stop] 65)
      have r2 := heap_alloc_new wr (.cells #[.slice pL x.labels.length cL, .int .i64 x.start, .int .i64 x.stop] 65)
      have HC := Lib.hid (HA.out _ (HR.out.1.bel.trans (hb2.mono HR.out.1.bel.size)) x _ (kP.below (Nat.le_refl _) (HR.out.1.bel.trans (hb2.mono HR.out.1.bel.size))) hxf)
      have HX := Lib.hid (And.intro hx (And.intro kP (And.intro hxf hb2)))
      have hol := HR.out.1.few hn
      clear kP hx hxf hb2
      go_upto_region 5 with fail
      generalize hw2 : wr.alloc _ = w2 at HC HX r2 ⊢
      generalize hbb : wr.heap.size = b2 at r2 ⊢
      have c0 : w2.cell? ⟨b2, 0, none⟩ = some (.slice pL x.labels.length cL) := (cells_of r2 0).1
      cases hmm : mallM ms x.labels with
      | false =>
        rw [hmm] at HC
        have HF := Lib.hid hmm
        clear hmm
        go_wp2_with (first | (go_at_call 31; refine HC.out.mono ?_; rintro e w3 ⟨rfl, hb3⟩; have H3 := Lib.hid (HX.out.2.2.2.trans (hb3.mono HX.out.2.2.2.size)); clear hb3))
        go_roundw
        case measure => simp [intOf]; omega
        case rel => exact ⟨n + 1, out, by go_num, by omega, HR.out.1.skip HX.out.1 HF.out H3.out⟩
      | true =>
        rw [hmm] at HC
        have HF := Lib.hid hmm
        clear hmm
        go_upto_region 6 with (first | (go_at_call 31; refine HC.out.mono ?_; rintro e w3 ⟨rfl, hb3⟩; have H3 := Lib.hid (HX.out.2.2.2.trans (hb3.mono HX.out.2.2.2.size)); have r3 := (hb3.block b2 (Array.getElem?_eq_some_iff.1 r2).1).trans r2; clear hb3))
        have d0 : w3.cell? ⟨b2, 0, none⟩ = some (.slice pL x.labels.length cL) := (cells_of r3 0).1
        have d1 : w3.cell? ⟨b2, 1, none⟩ = some (.int .i64 x.start) := (cells_of r3 1).1
        have d2 : w3.cell? ⟨b2, 2, none⟩ = some (.int .i64 x.stop) := (cells_of r3 2).1
        go_upto_region 7 with (first | (refine wpList_append_lies _ rfl _ _ _ rfl w.heap.size 65 i0 _ 3 40 Tryz.underlying24 hi0 iz0 iz1 iz2 rfl (by omega) (.slice pV out.length cV) out.length cs (by rfl) (ownsRow_below (ownsRow_below HR.out.2.1 (hbb ▸ H3.out)) ((Below.refl _ w3).alloc (Nat.le_refl _) (.cells #[.slice pL x.labels.length cL, .int .i64 x.start, .int .i64 x.stop] 65))) ⟨w3.heap.size, 0, none⟩ 1 1 [.slice pL x.labels.length cL, .int .i64 x.start, .int .i64 x.stop] (by rfl) (by rfl) (World.news_of_block (cs := #[.slice pL x.labels.length cL, .int .i64 x.start, .int .i64 x.stop]) (t := 65) (fr := (0, 0)) (heap_alloc_new w3 _)) (by simp [Value.oneCell']) (by omega) (by unfold maxLen; omega) (by omega) ?_ (w3.heap.size + 1) (by simp) ?_; (have := HR.out.1.bel.size; have := H3.out.size; simp; omega); intro g6 cap6 w4 hown4 hgrow4 hat4 hlt4; have H4 := Lib.hid (And.intro hown4 hgrow4); clear hown4 hgrow4 hat4 hlt4))
        have hb3' := (Below.refl w3.heap.size w3).alloc (Nat.le_refl _) (.cells #[.slice pL x.labels.length cL, .int .i64 x.start, .int .i64 x.stop] 65)
        have b3 : Below wr.heap.size wr (w3.alloc (.cells #[.slice pL x.labels.length cL, .int .i64 x.start, .int .i64 x.stop] 65)) := H3.out.trans (hb3'.mono H3.out.size)
        have r4 := SlRel.mid (w := w) HR.out.2.1 b3 H4.out.2 ((hb3'.block b2 (Array.getElem?_eq_some_iff.1 r3).1).trans r3) (Nat.le_of_eq hbb)
        have bw4 : Below w.heap.size w w4 := (HR.out.1.bel.trans (b3.mono HR.out.1.bel.size)).grown H4.out.2 (HR.out.1.bel.trans (b3.mono HR.out.1.bel.size)).size (fun k hk => (World.ownsRow.lt HR.out.2.1 k hk).1)
        have HCl := Lib.hid (clone_any (HX.out.2.1.below (Nat.le_refl _) bw4) HX.out.2.2.1.len)
        have H5 := Lib.hid b3
        have d0 : w4.cell? ⟨b2, 0, none⟩ = some (.slice pL x.labels.length cL) := (cells_of r4 0).1
        clear hb3' b3 bw4 d1 d2
        have hcc : ∀ w5, Below w4.heap.size w4 w5 → (∃ v, w5.cell? ⟨g6, out.length * 3, none⟩ = some v) ∧ w5.frozen? ⟨g6, out.length * 3, none⟩ = false := fun w5 b5 => own_cell (ownsRow_below H4.out.1 b5) (j := out.length * 3) (by omega)
        have HCC := Lib.hid hcc
        have hix : (out.length : Int) < (out.length : Int) + 1 := by omega
        clear hcc
        go_wp2_with (first | (go_at_call 80; refine HCl.out.mono ?_; rintro e w5 ⟨V5, rfl, hown5, hb5⟩; obtain ⟨p5, c5, rfl⟩ := ownsRow_form hown5; have H6 := Lib.hid (And.intro hown5 hb5); obtain ⟨⟨vv, e0⟩, e1⟩ := HCC.out w5 hb5; clear hown5 hb5))
        go_roundw
        case measure => simp [intOf]; omega
        case rel => exact ⟨n + 1, out ++ [x], by go_num, by omega, by simpa using HR.out.1.take HR.out.2.1 HR.out.2.2 HX.out.1 HF.out H5.out H4.out.2 H4.out.1 H6.out.2 H6.out.1 (ownsRow_one H6.out.1)⟩
    · have hne : n = l.length := by omega
      go_wp2_with fail
      go_ret
      refine ⟨⟨_, rfl, ?_⟩, HR.out.1.bel⟩
      have he := HR.out.1.eq
      rw [hne, List.take_length] at he
      rw [← he]
      exact als_own HR.out.2.1 HR.out.2.2
end Go.Proofs.YtcdeikhfmllkdaaGreatDoor

/- RequestSelects, walked. -/
namespace Go.Proofs.YtcdeikhfmllkdaaGreatDoor
open Go.RowKit
set_option linter.unusedVariables false
set_option linter.unusedSimpArgs false
theorem selM_nil (l : List AlM) : selM [] l = l := by
  unfold selM mallM
  rw [List.filter_eq_self]
  intro a _; rfl
theorem selM_twice (ms : List MtM) (l : List AlM) : selM ms (selM ms l) = selM ms l := by
  unfold selM
  rw [List.filter_filter]
  simp
theorem selM_mem {ms : List MtM} {l : List AlM} {a : AlM} (h : a ∈ selM ms l) : a ∈ l := (List.mem_filter.1 h).1
theorem selM_len (ms : List MtM) (l : List AlM) : (selM ms l).length ≤ l.length := List.length_filter_le _ _
set_option maxHeartbeats 8000000 in
set_option maxRecDepth 100000 in
theorem selects_walk {w : World} (hT : Tabs w) (hI : TabI w) {A B : Option Addr} {ca cb : Nat} {l : List AlM} {ms : List MtM} (L : AlsC w (.slice A l.length ca) l) (M : MtsC w (.slice B ms.length cb) ms) (hl : l.length ≤ maxLen) (hm : ms.length ≤ maxLen) (hll : ∀ a ∈ l, a.labels.length ≤ maxLen) (hok : ∀ m ∈ ms, MtOk m) :
    Calls Tryz.prog 9 #[.slice A l.length ca, .slice B ms.length cb] w fun e w' => e = .returned (.bool true) ∧ Below w.heap.size w w' := by
  have HAw : Hid (∀ w1, Below w.heap.size w w1 → Calls Tryz.prog 11 #[] w1 fun e w' => e = .returned (.bool true) ∧ Below w.heap.size w w') := Lib.hid (fun w1 hb => (awake_any (tabs_bel hT hb) (hI.below hb)).mono fun e w' ⟨he, hb'⟩ => ⟨he, hb.trans (hb'.mono hb.size)⟩)
  have HLt : Hid (Calls Tryz.prog 16 #[.agg #[.int .u8 0, .slice A l.length ca, .string ⟨#[]⟩, .slice none 0 0, .int .i64 0, .int .i64 0, .string ⟨#[]⟩, .slice B ms.length cb]] w (LtPost w ⟨0, l, [], [], 0, 0, [], ms⟩)) :=
    Lib.hid (light_full (w := w) (r := ⟨0, l, [], [], 0, 0, [], ms⟩) (pS := none) (cS := 0) ⟨L, ⟨⟨none, 0, rfl⟩, fun i x hi => by simp at hi⟩, M⟩ ⟨hl, hll, Nat.zero_le _, hm⟩ (Nat.zero_le _) (Nat.zero_le _))
  unfold LtPost at HLt
  have HL := Lib.hid (And.intro L (And.intro M hok))
  unfold maxLen at hl
  clear hT hI L M hok hll
  go_enter Tryz.func9, Tryz.ntmps9
  go_upto_region 3 with (first
    | (go_at_call 16; refine HLt.out.mono ?_; rintro e w2 ⟨hb2, (⟨rfl, hlt⟩ | rfl)⟩; all_goals have H2 := Lib.hid hb2; all_goals clear hb2)
    | (go_at_call 11; refine (HAw.out _ H2.out).mono ?_; rintro e w3 ⟨rfl, hb3⟩; have H3 := Lib.hid hb3; clear hb3))
  · have hfew : ∀ a ∈ l, AlFew a := fun a ha => by
      have := hlt.lab a ha
      exact ⟨by omega, fun p hp => Nat.le_trans (this.2 p hp) (by unfold maxLen; omega)⟩
    have h30 : l.length ≤ 30 := hlt.al
    have h12 : ms.length ≤ 12 := hlt.mt
    have HF := Lib.hid hfew
    clear hfew hlt HLt
    have HS : Hid (Calls Tryz.prog 30 #[.slice A l.length ca, .slice B ms.length cb] w2 fun e w' => (∃ p c, e = .returned (.slice p (selM ms l).length c) ∧ AlsC w' (.slice p (selM ms l).length c) (selM ms l)) ∧ Below w.heap.size w w') := Lib.hid ((select_any (HL.out.1.below (Nat.le_refl _) H2.out) HF.out (by omega) (HL.out.2.1.below (Nat.le_refl _) H2.out) HL.out.2.2 hm).mono (by
      rintro e w' ⟨⟨V, rfl, hV⟩, hb⟩
      obtain ⟨p, c, rfl⟩ := hV.form
      exact ⟨⟨p, c, rfl, hV⟩, H2.out.trans (hb.mono H2.out.size)⟩))
    go_upto_region 5 with (first | (go_at_call 30; refine HS.out.mono ?_; rintro e w3 ⟨⟨pG, cG, rfl, hG⟩, hb3⟩; have H3 := Lib.hid (And.intro hG hb3); clear hG hb3))
    clear HS
    go_wp2_with fail
    go_loopw [6, 7] (fun v6 v7 wr => ∃ i : Nat, v7 = .int .i64 i ∧ v6 = .int .i64 (selM ms (l.take i)).length ∧ i ≤ l.length ∧ AlsC wr (.slice pG (selM ms l).length cG) (selM ms l) ∧ Below w.heap.size w wr) (fun _ v _ => l.length - (intOf v).toNat)
    case atStart => exact ⟨0, rfl, by simp [selM], by omega, H3.out.1, H3.out.2⟩
    case round =>
      obtain ⟨i, rfl, rfl, hi, hg, hb⟩ := hrel
      have HB := Lib.hid (And.intro hg hb)
      clear hg hb H3
      have hsl := Nat.le_trans (selM_len ms (l.take i)) (by rw [List.length_take]; exact Nat.min_le_left _ _)
      by_cases hlt : i < l.length
      · obtain ⟨x, hx⟩ : ∃ x, l[i]? = some x := ⟨_, List.getElem?_eq_getElem hlt⟩
        obtain ⟨a, cap', La, e, k0, kP, k1, k2⟩ := (HL.out.1.below (Nat.le_refl _) HB.out.2).at hx
        simp only [Value.slice.injEq] at e
        obtain ⟨rfl, -, rfl⟩ := e
        obtain ⟨pL, cL, rfl⟩ := kP.form
        have hxf := HF.out x (List.mem_of_getElem? hx)
        have HC := Lib.hid (mall_any (HL.out.2.1.below (Nat.le_refl _) HB.out.2) HL.out.2.2 hm kP (Nat.le_trans hxf.len (by unfold maxLen; omega)) hxf.val)
        have HX := Lib.hid (selM_snoc (ms := ms) hx)
        clear kP hx hxf k1 k2
        cases hmm : mallM ms x.labels with
        | false =>
          rw [hmm] at HC HX
          have hxe : (selM ms (l.take (i + 1))).length = (selM ms (l.take i)).length := by rw [HX.out]; simp
          have HE := Lib.hid hxe
          clear hmm hxe
          go_wp2_with (first | (go_at_call 31; refine HC.out.mono ?_; rintro e w4 ⟨rfl, hb4⟩; have H4 := Lib.hid hb4; clear hb4))
          go_roundw
          case measure => simp [intOf]; omega
          case rel => exact ⟨i + 1, by go_num, by rw [HE.out], by omega, HB.out.1.below (Nat.le_refl _) H4.out, HB.out.2.trans (H4.out.mono HB.out.2.size)⟩
        | true =>
          rw [hmm] at HC HX
          have hxe : (selM ms (l.take (i + 1))).length = (selM ms (l.take i)).length + 1 := by rw [HX.out]; simp
          have HE := Lib.hid hxe
          clear hmm hxe
          go_wp2_with (first | (go_at_call 31; refine HC.out.mono ?_; rintro e w4 ⟨rfl, hb4⟩; have H4 := Lib.hid hb4; clear hb4))
          go_roundw
          case measure => simp [intOf]; omega
          case rel => exact ⟨i + 1, by go_num, by rw [HE.out]; go_num, by omega, HB.out.1.below (Nat.le_refl _) H4.out, HB.out.2.trans (H4.out.mono HB.out.2.size)⟩
      · obtain rfl : i = l.length := by omega
        have HA1 : Hid (∀ w1, Below w.heap.size w w1 → Calls Tryz.prog 30 #[.slice A l.length ca, .slice none 0 0] w1 fun e w' => (∃ p c, e = .returned (.slice p l.length c)) ∧ Below w1.heap.size w1 w') := Lib.hid (fun w1 hb1 => (select_any (HL.out.1.below (Nat.le_refl _) hb1) HF.out (by omega) (M := .slice none 0 0) (ms := []) ⟨⟨none, 0, rfl⟩, fun i x hi => by simp at hi⟩ (by intro m hm; cases hm) (Nat.zero_le _)).mono (by
          rintro e w' ⟨⟨V, rfl, hV⟩, hb⟩
          obtain ⟨p, c, rfl⟩ := hV.form
          rw [selM_nil]
          exact ⟨⟨p, c, rfl⟩, hb⟩))
        have hgl : (selM ms l).length ≤ l.length := selM_len ms l
        have HA2 : Hid (∀ w1, Below wr.heap.size wr w1 → Calls Tryz.prog 30 #[.slice pG (selM ms l).length cG, .slice B ms.length cb] w1 fun e w' => (∃ p c, e = .returned (.slice p (selM ms l).length c)) ∧ Below w1.heap.size w1 w') := Lib.hid (fun w1 hb1 => (select_any (HB.out.1.below (Nat.le_refl _) hb1) (fun a ha => HF.out a (selM_mem ha)) (by omega) (HL.out.2.1.below (Nat.le_refl _) (HB.out.2.trans (hb1.mono HB.out.2.size))) HL.out.2.2 hm).mono (by
          rintro e w' ⟨⟨V, rfl, hV⟩, hb⟩
          obtain ⟨p, c, rfl⟩ := hV.form
          rw [selM_twice]
          exact ⟨⟨p, c, rfl⟩, hb⟩))
        rw [List.take_length]
        obtain ⟨G, hG⟩ : ∃ G, (selM ms l).length = G := ⟨_, rfl⟩
        rw [hG] at HA2 hgl ⊢
        have e1 : ((G : Int) == (G : Int)) = true := beq_self_eq_true _
        have e2 : ((l.length : Int) == (l.length : Int)) = true := beq_self_eq_true _
        have HBB := Lib.hid HB.out.2
        clear HB hG hsl
        go_wp2_with (first
          | (go_at_call 30; refine (HA2.out w4 H4.out).mono ?_; rintro e w5 ⟨⟨p2, c2, rfl⟩, hb5⟩; have H5 := Lib.hid (HBB.out.trans ((H4.out.trans (hb5.mono H4.out.size)).mono HBB.out.size)); clear hb5)
          | (go_at_call 30; refine (HA1.out wr HBB.out).mono ?_; rintro e w4 ⟨⟨p1, c1, rfl⟩, hb4⟩; have H4 := Lib.hid hb4; clear hb4)
          | (go_at_call 11; refine (HAw.out _ H5.out).mono ?_; rintro e w6 ⟨rfl, hb6⟩))
        go_ret
        exact ⟨rfl, hb6⟩
  · go_ret
    exact ⟨rfl, H3.out⟩
end Go.Proofs.YtcdeikhfmllkdaaGreatDoor
