/- request: the tree, and alerts told as values. -/
import Derived.Test.YtcdeikhfmllkdaaGreatDoorRpC
import Derived.Test.YtcdeikhfmllkdaaGreatDoorJd
namespace Go.Proofs.YtcdeikhfmllkdaaGreatDoor
open Go.RowKit
set_option linter.unusedVariables false
set_option linter.unusedSimpArgs false
/-- A tree in memory. -/
structure TrV (w : World) (q : Nat) (V : Value) (l : List Val) : Prop where
  row : w.heap[q]? = some (.cells #[V] 118)
  own : Own w (q + 1) V l
theorem TrV.lt {w : World} {q : Nat} {V : Value} {l : List Val} (T : TrV w q V l) : q < w.heap.size := (Array.getElem?_eq_some_iff.1 T.row).1
theorem TrV.below {w w' : World} {q : Nat} {V : Value} {l : List Val} (T : TrV w q V l) (b : Below w.heap.size w w') : TrV w' q V l :=
  ⟨(b.block _ T.lt).trans T.row, T.own.kept (fun k hk => b.block _ (T.own.lt hk).2)⟩
theorem TrV.mid {w w1 w2 : World} {q : Nat} {V : Value} {l : List Val} (T : TrV w q V l) (hb : Below w.heap.size w w1) (hg : w1.grownBy w2 V.ownBlock) : w2.cell? ⟨q, 0, none⟩ = some V ∧ w2.frozen? ⟨q, 0, none⟩ = false := by
  have T1 := T.below hb
  have e : w2.heap[q]? = some (.cells #[V] 118) := by
    rw [hg.block q T1.lt (fun e => by have := (T1.own.lt e.symm).1; omega)]; exact T1.row
  exact cells_of e 0
theorem TrV.grown {w w1 w2 : World} {q : Nat} {V V' : Value} {l : List Val} {v : Val} (T : TrV w q V l) (hb : Below w.heap.size w w1) (hg : w1.grownBy w2 V.ownBlock)
    (h : w2.ownsRow (q + 1) 78 4 V' (l.length + 1) (vcells l ++ v.cells)) : TrV (w2.setCell ⟨q, 0, none⟩ V') q V' (l ++ [v]) ∧ Below q w (w2.setCell ⟨q, 0, none⟩ V') := by
  have hne : ∀ k, V'.ownBlock = some k → k ≠ q := fun k hk => by have := (World.ownsRow.lt h k hk).1; omega
  have T1 := T.below hb
  refine ⟨⟨?_, ?_⟩, ?_⟩
  · have e : w2.heap[q]? = some (.cells #[V] 118) := by
      rw [hg.block q T1.lt (fun e => by have := (T1.own.lt e.symm).1; omega)]; exact T1.row
    simpa using blk_set e 0 V'
  · have e : Own w2 (q + 1) V' (l ++ [v]) := by
      unfold Own; rw [vcells_append, vcells_one]; simpa using h
    exact e.kept (fun k hk => Below.heap_setCell _ _ _ _ (fun e => hne k hk e))
  · have t1 : Turn (fun k => k = q ∨ V.ownBlock = some k) w1 w2 := ⟨hg.os, hg.tape, hg.output, hg.size, fun k hk hn => hg.block k hk (fun e => hn (.inr e.symm))⟩
    have t2 := ((Turn.of_below hb : Turn (fun k => k = q ∨ V.ownBlock = some k) w w1).trans t1).trans (turn_set w2 q 0 V' _ (.inl rfl))
    refine t2.to_below (Nat.le_of_lt T.lt) (fun k hk => ?_)
    rcases hk with rfl | hk
    · exact Nat.le_refl _
    · have := (T.own.lt hk).1; omega
/-- What stays of blocks above the tree. -/
structure TrK (w w' : World) (q : Nat) (V V' : Value) : Prop where
  keep : ∀ k, k < w.heap.size → k ≠ q → V.ownBlock ≠ some k → w'.heap[k]? = w.heap[k]?
  new : ∀ k, V'.ownBlock = some k → V.ownBlock = some k ∨ w.heap.size ≤ k
  size : w.heap.size ≤ w'.heap.size
theorem TrK.trans {w w1 w2 : World} {q : Nat} {V V1 V2 : Value} (h : TrK w w1 q V V1) (k : TrK w1 w2 q V1 V2) : TrK w w2 q V V2 := by
  refine ⟨fun j hj hq hn => ?_, fun j hj => ?_, Nat.le_trans h.size k.size⟩
  · rw [k.keep j (Nat.lt_of_lt_of_le hj h.size) hq (fun e => ?_)]
    · exact h.keep j hj hq hn
    · rcases h.new j e with e | e
      · exact hn e
      · omega
  · rcases k.new j hj with e | e
    · exact h.new j e
    · exact .inr (Nat.le_trans h.size e)
theorem TrK.of_below {w w1 : World} {q : Nat} {V : Value} (h : Below w.heap.size w w1) : TrK w w1 q V V := ⟨fun k hk _ _ => h.block k hk, fun k hk => .inl hk, h.size⟩
theorem TrK.grown {w w1 w2 : World} {q g n cap : Nat} {V : Value} (hb : Below w.heap.size w w1) (hg : w1.grownBy w2 V.ownBlock) (h : V.ownBlock = some g ∨ g = w.heap.size + 1) (x : Value) :
    TrK w (w2.setCell ⟨q, 0, none⟩ x) q V (.slice (some ⟨g, 0, none⟩) n cap) := by
  refine ⟨fun k hk hq hn => ?_, fun k hk => ?_, ?_⟩
  · rw [Below.heap_setCell _ _ _ _ hq, hg.block k (Nat.lt_of_lt_of_le hk hb.size) (fun e => hn e.symm)]
    exact hb.block k hk
  · simp only [Value.ownBlock, Option.some.injEq] at hk
    subst hk
    rcases h with h | h
    · exact .inl h
    · exact .inr (by omega)
  · have := hb.size; have := hg.size
    simp; omega
set_option maxRecDepth 100000 in
set_option maxHeartbeats 4000000 in
theorem add_any {w : World} {q : Nat} {V : Value} {l : List Val} (T : TrV w q V l) (hl : l.length < 100000) (p : Int) (k : Nat) (name text : Bytes) :
    Calls Tryz.prog 71 #[.pointer (some ⟨q, 0, none⟩), .int .i64 p, .int .u8 k, .string (str name), .string (str text)] w fun e w' => e = .returned (.int .i64 l.length) ∧ (∃ V', TrV w' q V' (l ++ [⟨p, k, name, text⟩]) ∧ TrK w w' q V V') ∧ Below q w w' := by
  obtain ⟨i0, hi0, iz0, iz1, iz2⟩ := info_parts Tryz.info78
  obtain ⟨pV, cap, rfl⟩ := T.own.form
  have HT := Lib.hid T
  have c0 := (cells_of T.row 0).1
  have hq := T.lt
  clear T
  go_enter Tryz.func71, Tryz.ntmps71
  go_wp2_with (first | (refine wpList_append_lies _ rfl _ _ _ rfl (q + 1) 78 i0 _ 4 48 Tryz.underlying52 hi0 iz0 iz1 iz2 rfl (by omega) (.slice pV l.length cap) l.length (vcells l) (by rfl) ((HT.out.below ((Below.refl _ _).alloc (Nat.le_refl _) (.cells #[.int .i64 p, .int .u8 k, .string (str name), .string (str text)] 78))).own) ⟨w.heap.size, 0, none⟩ 1 1 [.int .i64 p, .int .u8 k, .string (str name), .string (str text)] (by rfl) (by rfl) (World.news_of_block (cs := #[.int .i64 p, .int .u8 k, .string (str name), .string (str text)]) (t := 78) (fr := (0, 0)) (heap_alloc_new w _)) (by simp [Value.oneCell']) (by omega) (by unfold maxLen; omega) (by omega) (by simp; omega) (w.heap.size + 1) (by simp) ?_; intro g6 cap6 w3 hown3 hgrow3 hat3 hlt3; have H3 := Lib.hid (HT.out.grown (v := ⟨p, k, name, text⟩) ((Below.refl _ _).alloc (Nat.le_refl _) _) hgrow3 hown3); have K3 := Lib.hid (TrK.grown (q := q) (n := l.length + 1) (cap := cap6) ((Below.refl _ _).alloc (Nat.le_refl _) _) hgrow3 hat3 (.slice (some ⟨g6, 0, none⟩) (l.length + 1) cap6)); obtain ⟨d0, d1⟩ := HT.out.mid ((Below.refl _ _).alloc (Nat.le_refl _) _) hgrow3; clear hown3 hgrow3 hat3 hlt3))
  go_ret
  exact ⟨rfl, ⟨_, H3.out.1, K3.out⟩, H3.out.2⟩

/-- strconv.Itoa answers here. -/
def ItoaOk (w : World) : Prop := ∀ n : Int, (Lit.int .i64 n).wf = true → Calls Tryz.prog 88 #[.int .i64 n] w fun e w' => e = .returned (.string (str (Lib.itoa n))) ∧ Below w.heap.size w w'
set_option maxRecDepth 100000 in
set_option maxHeartbeats 4000000 in
theorem times_any {w : World} {q : Nat} {V : Value} {l : List Val} (T : TrV w q V l) (hl : l.length < 90000) (HI : ∀ w1, Below q w w1 → ItoaOk w1) (p : Nat) (a b : Int) (ha : (Lit.int .i64 a).wf = true) (hb : (Lit.int .i64 b).wf = true) :
    Calls Tryz.prog 115 #[.pointer (some ⟨q, 0, none⟩), .int .i64 p, .int .i64 a, .int .i64 b] w fun e w' => e = .returned (.tuple #[]) ∧ (∃ V', TrV w' q V' (l ++ [numV p nStart a, numV p nEnd b])) ∧ Below q w w' := by
  have HA : Hid (∀ (w1 : World) (V1 : Value) (l1 : List Val) (t : Bytes), TrV w1 q V1 l1 → l1.length < 100000 → Calls Tryz.prog 71 #[.pointer (some ⟨q, 0, none⟩), .int .i64 p, .int .u8 3, .string ⟨#[115, 116, 97, 114, 116]⟩, .string (str t)] w1 fun e w' => e = .returned (.int .i64 l1.length) ∧ (∃ V', TrV w' q V' (l1 ++ [⟨p, 3, nStart, t⟩]) ∧ TrK w1 w' q V1 V') ∧ Below q w1 w') := Lib.hid (fun w1 V1 l1 t T1 h1 => add_any T1 h1 p 3 nStart t)
  have HB : Hid (∀ (w1 : World) (V1 : Value) (l1 : List Val) (t : Bytes), TrV w1 q V1 l1 → l1.length < 100000 → Calls Tryz.prog 71 #[.pointer (some ⟨q, 0, none⟩), .int .i64 p, .int .u8 3, .string ⟨#[101, 110, 100]⟩, .string (str t)] w1 fun e w' => e = .returned (.int .i64 l1.length) ∧ (∃ V', TrV w' q V' (l1 ++ [⟨p, 3, nEnd, t⟩]) ∧ TrK w1 w' q V1 V') ∧ Below q w1 w') := Lib.hid (fun w1 V1 l1 t T1 h1 => add_any T1 h1 p 3 nEnd t)
  have HT := Lib.hid T
  have hq := T.lt
  have H1 := Lib.hid (HI w (Below.refl _ _) a ha)
  have HN := Lib.hid HI
  have Hb := Lib.hid hb
  clear T HI ha hb
  go_enter Tryz.func115, Tryz.ntmps115
  go_upto_region 1 with (first
    | (go_at_call 88; refine H1.out.mono ?_; rintro e w2 ⟨rfl, hb2⟩; have T2 := Lib.hid (HT.out.below hb2); have B2 := Lib.hid (hb2.mono (Nat.le_of_lt hq)); clear hb2)
    | (go_at_call 71; refine (HA.out _ _ _ _ T2.out (by omega)).mono ?_; rintro e w3 ⟨rfl, ⟨V3, t3, -⟩, hb3⟩; have T3 := Lib.hid t3; have B3 := Lib.hid (B2.out.trans hb3); clear t3 hb3))
  have H4 := Lib.hid (HN.out w3 B3.out b Hb.out)
  go_wp2_with (first
    | (go_at_call 88; refine H4.out.mono ?_; rintro e w4 ⟨rfl, hb4⟩; have T4 := Lib.hid (T3.out.below hb4); have B4 := Lib.hid (B3.out.trans (hb4.mono (Nat.le_of_lt T3.out.lt))); clear hb4)
    | (go_at_call 71; refine (HB.out _ _ _ _ T4.out (by simp; omega)).mono ?_; rintro e w5 ⟨rfl, ⟨V5, t5, -⟩, hb5⟩; have T5 := Lib.hid t5; have B5 := Lib.hid (B4.out.trans hb5); clear t5 hb5))
  refine bodyPost_end (v := .tuple #[]) (by simp [results, Tryz.results115]) rfl ⟨rfl, ⟨V5, ?_⟩, B5.out⟩
  have := T5.out
  rw [List.append_assoc] at this
  exact this


structure AlIn (w : World) (q : Nat) (L : Value) (a : AlM) : Prop where
  prs : ∀ w1, Below q w w1 → PrsC w1 L a.labels
  s0 : (Lit.int .i64 a.start).wf = true
  s1 : (Lit.int .i64 a.stop).wf = true
  few : a.labels.length ≤ 12
theorem AlIn.below {w w' : World} {q : Nat} {L : Value} {a : AlM} (h : AlIn w q L a) (b : Below q w w') : AlIn w' q L a := ⟨fun w1 hb => h.prs w1 (b.trans hb), h.s0, h.s1, h.few⟩
/-- A tree that grows, while a box stays. -/
structure TrB (w wr : World) (q b : Nat) (cs : Array Value) (l : List Val) : Prop where
  tr : ∃ V, TrV wr q V l ∧ V.ownBlock ≠ some b
  row : wr.heap[b]? = some (.cells cs 65)
  ne : b ≠ q
  bel : Below q w wr
theorem TrB.start {w : World} {q : Nat} {V : Value} {l : List Val} (T : TrV w q V l) (cs : Array Value) : TrB w (w.alloc (.cells cs 65)) q w.heap.size cs l :=
  ⟨⟨V, T.below ((Below.refl _ _).alloc (Nat.le_refl _) _), fun e => Nat.lt_irrefl _ (T.own.lt e).2⟩, heap_alloc_new _ _, by have := T.lt; omega, (Below.refl _ _).alloc (Nat.le_of_lt T.lt) _⟩
theorem TrB.step {w wr w' : World} {q b : Nat} {cs : Array Value} {l l' : List Val} {V V' : Value} (H : TrB w wr q b cs l) (h0 : TrV wr q V l) (hV : V.ownBlock ≠ some b) (h : TrV w' q V' l') (k : TrK wr w' q V V') (hb : Below q wr w') : TrB w w' q b cs l' := by
  have hbs := (Array.getElem?_eq_some_iff.1 H.row).1
  refine ⟨⟨V', h, fun e => ?_⟩, (k.keep b hbs H.ne hV).trans H.row, H.ne, H.bel.trans hb⟩
  rcases k.new b e with e | e
  · exact hV e
  · omega
theorem TrB.alloc {w wr : World} {q b : Nat} {cs : Array Value} {l : List Val} (H : TrB w wr q b cs l) (o : Obj) : TrB w (wr.alloc o) q b cs l := by
  obtain ⟨V, h, hV⟩ := H.tr
  have hbs := (Array.getElem?_eq_some_iff.1 H.row).1
  exact ⟨⟨V, h.below ((Below.refl _ _).alloc (Nat.le_refl _) _), hV⟩, (heap_alloc_old _ _ hbs).trans H.row, H.ne, H.bel.trans ((Below.refl _ _).alloc (Nat.le_of_lt h.lt) _)⟩
/-- add, while a box stays. -/
theorem TrB.add {w wr : World} {q b : Nat} {cs : Array Value} {l : List Val} (H : TrB w wr q b cs l) (hl : l.length < 100000) (p : Int) (k : Nat) (name text : Bytes) :
    Calls Tryz.prog 71 #[.pointer (some ⟨q, 0, none⟩), .int .i64 p, .int .u8 k, .string (str name), .string (str text)] wr fun e w' => e = .returned (.int .i64 l.length) ∧ TrB w w' q b cs (l ++ [⟨p, k, name, text⟩]) := by
  obtain ⟨V, h, hV⟩ := H.tr
  exact (add_any h hl p k name text).mono fun e w' ⟨he, ⟨V', h', k'⟩, hb⟩ => ⟨he, H.step h hV h' k' hb⟩
set_option maxRecDepth 100000 in
set_option maxHeartbeats 4000000 in
theorem alert_any {w : World} {q : Nat} {V : Value} {l : List Val} (T : TrV w q V l) (hl : l.length < 80000) (HI : ∀ w1, Below q w w1 → ItoaOk w1) (L : Value) (a : AlM) (A : AlIn w q L a) :
    Calls Tryz.prog 72 #[.pointer (some ⟨q, 0, none⟩), .int .i64 0, .agg #[L, .int .i64 a.start, .int .i64 a.stop]] w fun e w' => e = .returned (.tuple #[]) ∧ (∃ V', TrV w' q V' (l ++ alertV l.length a)) ∧ Below q w w' := by
  have h12 := A.few
  obtain ⟨pL, cL, rfl⟩ := (A.prs w (Below.refl _ _)).form
  have H0 := Lib.hid (TrB.start T #[.slice pL a.labels.length cL, .int .i64 a.start, .int .i64 a.stop])
  have HN := Lib.hid HI
  have HAl := Lib.hid A
  clear T HI A
  go_enter Tryz.func72, Tryz.ntmps72
  go_upto_region 1 with fail
  generalize w.alloc _ = w1 at H0 ⊢
  generalize w.heap.size = b at H0 ⊢
  have H1 : Hid (Calls Tryz.prog 71 #[.pointer (some ⟨q, 0, none⟩), .int .i64 0, .int .u8 6, .string ⟨#[]⟩, .string ⟨#[]⟩] w1 fun e w' => e = .returned (.int .i64 l.length) ∧ TrB w w' q b _ (l ++ [objV])) := Lib.hid (H0.out.add (by omega) 0 6 [] [])
  go_upto_region 2 with (first | (go_at_call 71; refine H1.out.mono ?_; rintro e w2 ⟨rfl, h2⟩; have H2 := Lib.hid h2; clear h2))
  clear H0 H1
  have H3 : Hid (Calls Tryz.prog 71 #[.pointer (some ⟨q, 0, none⟩), .int .i64 l.length, .int .u8 6, .string ⟨#[108, 97, 98, 101, 108, 115]⟩, .string ⟨#[]⟩] w2 fun e w' => e = .returned (.int .i64 ((l.length + 1 : Nat) : Int)) ∧ TrB w w' q b _ (l ++ [objV] ++ [lobV l.length])) := Lib.hid (by
    have := H2.out.add (by simp; omega) l.length 6 nLabels []
    rw [List.length_append] at this
    exact this)
  go_upto_region 3 with (first | (go_at_call 71; refine H3.out.mono ?_; rintro e w3 ⟨rfl, h3⟩; have H4 := Lib.hid h3; clear h3))
  clear H2 H3
  have c0 : w3.cell? ⟨b, 0, none⟩ = some (.slice pL a.labels.length cL) := (cells_of H4.out.row 0).1
  go_wp2_with fail
  go_loopw [19] (fun v wr => ∃ n : Nat, v = .int .i64 n ∧ n ≤ a.labels.length ∧ TrB w wr q b #[.slice pL a.labels.length cL, .int .i64 a.start, .int .i64 a.stop] (l ++ [objV] ++ [lobV l.length] ++ (a.labels.take n).map (labV (l.length + 1)))) (fun v _ => a.labels.length - (intOf v).toNat)
  case atStart => exact ⟨0, rfl, by omega, by simpa using H4.out⟩
  case round =>
    obtain ⟨n, rfl, hn, hr⟩ := hrel
    have HR := Lib.hid hr
    clear hr H4 c0
    by_cases hlt : n < a.labels.length
    · obtain ⟨x, hx⟩ : ∃ x, a.labels[n]? = some x := ⟨_, List.getElem?_eq_getElem hlt⟩
      obtain ⟨ad, cap', e, k0, k1⟩ := (HAl.out.prs wr HR.out.bel).at hx
      simp only [Value.slice.injEq] at e
      obtain ⟨rfl, -, rfl⟩ := e
      have HC : Hid (Calls Tryz.prog 71 #[.pointer (some ⟨q, 0, none⟩), .int .i64 ((l.length + 1 : Nat) : Int), .int .u8 4, .string (str x.1), .string (str x.2)] (wr.alloc (.cells #[.string (str x.1), .string (str x.2)] 134)) fun e w' => (∃ z, e = .returned z) ∧ TrB w w' q b _ (l ++ [objV] ++ [lobV l.length] ++ (a.labels.take (n + 1)).map (labV (l.length + 1)))) := Lib.hid (by
        have h := (HR.out.alloc (.cells #[.string (str x.1), .string (str x.2)] 134)).add (by simp; omega) ((l.length + 1 : Nat) : Int) 4 x.1 x.2
        have e : a.labels.take (n + 1) = a.labels.take n ++ [x] := by rw [List.take_add_one, hx]; rfl
        rw [e, List.map_append, ← List.append_assoc]
        exact h.mono fun e w' ⟨he, ht⟩ => ⟨⟨_, he⟩, ht⟩)
      have HR' : Hid (TrB w (wr.alloc (.cells #[.string (str x.1), .string (str x.2)] 134)) q b #[.slice (some ad) a.labels.length cL, .int .i64 a.start, .int .i64 a.stop] (l ++ [objV] ++ [lobV l.length] ++ (a.labels.take n).map (labV (l.length + 1)))) := Lib.hid (HR.out.alloc _)
      clear hx
      go_wp2_with (first | (go_at_call 71; refine HC.out.mono ?_; rintro e w5 ⟨⟨z, rfl⟩, h5⟩; have H5 := Lib.hid h5; clear h5))
      go_roundw
      case measure => simp [intOf]; omega
      case rel => exact ⟨n + 1, by go_num, by omega, H5.out⟩
    · obtain rfl : n = a.labels.length := by omega
      have c1 : wr.cell? ⟨b, 1, none⟩ = some (.int .i64 a.start) := (cells_of HR.out.row 1).1
      have c2 : wr.cell? ⟨b, 2, none⟩ = some (.int .i64 a.stop) := (cells_of HR.out.row 2).1
      have HE : Hid (Calls Tryz.prog 115 #[.pointer (some ⟨q, 0, none⟩), .int .i64 l.length, .int .i64 a.start, .int .i64 a.stop] wr fun e w' => e = .returned (.tuple #[]) ∧ (∃ V', TrV w' q V' (l ++ alertV l.length a)) ∧ Below q w w') := Lib.hid (by
        obtain ⟨V, h, hV⟩ := HR.out.tr
        have h := times_any h (by simp; omega) (fun w1 hb => HN.out w1 (HR.out.bel.trans hb)) l.length a.start a.stop HAl.out.s0 HAl.out.s1
        refine h.mono fun e w' ⟨he, ⟨V', ht⟩, hb⟩ => ⟨he, ⟨V', ?_⟩, HR.out.bel.trans hb⟩
        simpa [alertV] using ht)
      go_wp2_with (first | (go_at_call 115; refine HE.out.mono ?_; rintro e w5 ⟨rfl, h5, hb5⟩; have H5 := Lib.hid (And.intro h5 hb5); clear h5 hb5))
      refine bodyPost_end (v := .tuple #[]) (by simp [results, Tryz.results72]) rfl ⟨rfl, H5.out.1, H5.out.2⟩

structure AlsOk (l : List AlM) : Prop where
  few : l.length ≤ 30
  labs : ∀ a ∈ l, a.labels.length ≤ 12
  s0 : ∀ a ∈ l, (Lit.int .i64 a.start).wf = true
  s1 : ∀ a ∈ l, (Lit.int .i64 a.stop).wf = true
theorem alerts_take {l : List AlM} (h : AlsOk l) (n : Nat) : (alertsM (l.take n)).length ≤ 481 :=
  alertsM_len (fun a ha => h.labs a (List.mem_of_mem_take ha)) (by have := h.few; simp; omega)
set_option maxRecDepth 100000 in
set_option maxHeartbeats 4000000 in
theorem alerts_any {w : World} {V : Value} {l : List AlM} (HI : ∀ w1, Below w.heap.size w w1 → ItoaOk w1) (L : AlsC w V l) (K : AlsOk l) :
    Calls Tryz.prog 25 #[V] w fun e w' => (∃ V', e = .returned V' ∧ Lst w' V' (alertsM l)) ∧ Below w.heap.size w w' := by
  obtain ⟨p, cap, rfl⟩ := L.form
  have h30 := K.few
  obtain ⟨q, hq⟩ : ∃ q, w.heap.size = q := ⟨_, rfl⟩
  have T0 : TrV (w.alloc (.cells #[.slice none 0 0] 118)) w.heap.size (.slice none 0 0) [] := ⟨heap_alloc_new _ _, ⟨by simp [vcells], .inl ⟨rfl, rfl⟩⟩⟩
  have B0 : Below w.heap.size w (w.alloc (.cells #[.slice none 0 0] 118)) := (Below.refl _ _).alloc (Nat.le_refl _) _
  have H0 := Lib.hid (And.intro T0 B0)
  have HN := Lib.hid HI
  have HL := Lib.hid L
  have HK := Lib.hid K
  clear T0 B0 HI L K
  go_enter Tryz.func25, Tryz.ntmps25
  go_upto_region 2 with fail
  rw [hq] at H0 HN
  generalize w.alloc _ = w1 at H0 ⊢
  have H1 : Hid (Calls Tryz.prog 71 #[.pointer (some ⟨q, 0, none⟩), .int .i64 (-1), .int .u8 5, .string ⟨#[]⟩, .string ⟨#[]⟩] w1 fun e w' => (∃ z, e = .returned z) ∧ (∃ V', TrV w' q V' (alertsM (l.take 0))) ∧ Below q w w') := Lib.hid ((add_any H0.out.1 (by simp) (-1) 5 [] []).mono fun e w' ⟨he, ⟨V', h, _⟩, hb⟩ => ⟨⟨_, he⟩, ⟨V', h⟩, H0.out.2.trans hb⟩)
  go_upto_region 3 with (first | (go_at_call 71; refine H1.out.mono ?_; rintro e w2 ⟨⟨z, rfl⟩, h2, hb2⟩; have H2 := Lib.hid (And.intro h2 hb2); clear h2 hb2))
  clear H0 H1
  go_wp2_with fail
  go_loopw [12] (fun v wr => ∃ n : Nat, v = .int .i64 n ∧ n ≤ l.length ∧ (∃ V', TrV wr q V' (alertsM (l.take n))) ∧ Below q w wr) (fun v _ => l.length - (intOf v).toNat)
  case atStart => exact ⟨0, rfl, by omega, H2.out.1, H2.out.2⟩
  case round =>
    obtain ⟨n, rfl, hn, ⟨Vr, tr⟩, br⟩ := hrel
    have HR := Lib.hid (And.intro tr br)
    clear tr br H2
    by_cases hlt : n < l.length
    · obtain ⟨x, hx⟩ : ∃ x, l[n]? = some x := ⟨_, List.getElem?_eq_getElem hlt⟩
      have hxm := List.mem_of_getElem? hx
      obtain ⟨ad, cap', Lx, e, k0, kP, k1, k2⟩ := (HL.out.below (Nat.le_of_eq hq) HR.out.2).at hx
      simp only [Value.slice.injEq] at e
      obtain ⟨rfl, -, rfl⟩ := e
      obtain ⟨pL, cL, rfl⟩ := kP.form
      have HC : Hid (Calls Tryz.prog 72 #[.pointer (some ⟨q, 0, none⟩), .int .i64 0, .agg #[.slice pL x.labels.length cL, .int .i64 x.start, .int .i64 x.stop]] (wr.alloc (.cells #[.slice pL x.labels.length cL, .int .i64 x.start, .int .i64 x.stop] 65)) fun e w' => e = .returned (.tuple #[]) ∧ (∃ V', TrV w' q V' (alertsM (l.take (n + 1)))) ∧ Below q w w') := Lib.hid (by
        have ba : Below wr.heap.size wr (wr.alloc (.cells #[.slice pL x.labels.length cL, .int .i64 x.start, .int .i64 x.stop] 65)) := (Below.refl _ _).alloc (Nat.le_refl _) _
        have bq : Below q w (wr.alloc (.cells #[.slice pL x.labels.length cL, .int .i64 x.start, .int .i64 x.stop] 65)) := HR.out.2.trans (ba.mono (Nat.le_of_lt HR.out.1.lt))
        have hlen := alerts_take HK.out n
        have hP : ∀ w1, Below q w w1 → PrsC w1 (.slice pL x.labels.length cL) x.labels := by
          intro w1 hb
          obtain ⟨a', n', c', L', e', j0, jP, _⟩ := HL.out.cells n x hx
          simp only [Value.slice.injEq, Option.some.injEq] at e'
          obtain ⟨rfl, -, -⟩ := e'
          have hlt0 := World.block_lt_of_cell? w _ j0
          have : wr.cell? (ad.add (n * 3)) = some L' := (HR.out.2.cell (by omega)).trans j0
          rw [k0] at this
          obtain rfl := Option.some.inj this
          exact jP.below (Nat.le_of_eq hq) hb
        have h := alert_any (HR.out.1.below ba) (by omega) (fun w1 hb => HN.out w1 (bq.trans hb)) (.slice pL x.labels.length cL) x ⟨fun w1 hb => hP w1 (bq.trans hb), HK.out.s0 x hxm, HK.out.s1 x hxm, HK.out.labs x hxm⟩
        refine h.mono fun e w' ⟨he, ⟨V', ht⟩, hb⟩ => ⟨he, ⟨V', ?_⟩, bq.trans hb⟩
        have e : l.take (n + 1) = l.take n ++ [x] := by rw [List.take_add_one, hx]; rfl
        rw [e, alertsM_snoc]
        exact ht)
      clear hx hxm kP
      go_wp2_with (first | (go_at_call 72; refine HC.out.mono ?_; rintro e w5 ⟨rfl, h5, hb5⟩; have H5 := Lib.hid (And.intro h5 hb5); clear h5 hb5))
      go_roundw
      case measure => simp [intOf]; omega
      case rel => exact ⟨n + 1, by go_num, by omega, H5.out.1, H5.out.2⟩
    · obtain rfl : n = l.length := by omega
      have c0 : wr.cell? ⟨q, 0, none⟩ = some Vr := (cells_of HR.out.1.row 0).1
      go_wp2_with fail
      go_ret
      refine ⟨⟨_, rfl, ?_⟩, by rw [hq]; exact HR.out.2⟩
      have := HR.out.1.own.lst
      rw [List.take_length] at this
      exact this
end Go.Proofs.YtcdeikhfmllkdaaGreatDoor
