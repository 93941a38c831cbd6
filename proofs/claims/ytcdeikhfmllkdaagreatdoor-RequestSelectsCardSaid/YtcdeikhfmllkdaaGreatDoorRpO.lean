/- Alerts as they come, opened. -/
import Derived.Test.YtcdeikhfmllkdaaGreatDoorRpP
import Derived.Test.YtcdeikhfmllkdaaGreatDoorRows
import Derived.ProofKit
import Derived.Deep.Slices
namespace Go.Proofs.YtcdeikhfmllkdaaGreatDoor
open Go.RowKit
set_option linter.unusedVariables false
set_option linter.unusedSimpArgs false
section
variable {H : Type} {enc : TypeId × Value → H} {w : World} {base : Nat} {sp : Nat → Bool} {held : Bool} {fuel : Nat} {cs : List Value} {x : DataW H × List MemPlace}
theorem bulk_pos (d : DataW H) : 1 ≤ Rows.uptoBulk d := by
  cases d with
  | lit l => cases l <;> simp [Rows.uptoBulk]
  | _ => simp [Rows.uptoBulk]
theorem bulk_mem {d : DataW H} {l : List (DataW H)} (h : d ∈ l) : Rows.uptoBulk d ≤ Rows.uptoBulkAll l := by
  induction l with
  | nil => cases h
  | cons a l ih =>
    simp only [Rows.uptoBulkAll]
    rcases List.mem_cons.1 h with rfl | h
    · omega
    · have := ih h; omega
theorem bulk_len (l : List (DataW H)) : l.length ≤ Rows.uptoBulkAll l := by
  induction l with
  | nil => simp
  | cons a l ih =>
    simp only [Rows.uptoBulkAll, List.length_cons]
    have := bulk_pos a; omega
theorem fld {fs : Array Field} {t : TypeId} (hu : Tryz.prog.underlying t = some (.struct fs)) (h : DataW.trod enc Tryz.prog w base sp held fuel t cs = some x) :
    ∃ n, cs.length = Tryz.prog.cellsOf t ∧ ∀ (i : Nat) (f : Field), fs[i]? = some f → ∃ y, DataW.trod enc Tryz.prog w base sp held n f.type ((cs.drop f.offset).take (Tryz.prog.cellsOf f.type)) = some y ∧ Rows.uptoBulk y.1 ≤ Rows.uptoBulk x.1 := by
  obtain ⟨xs, n, _, rfl, hl, hxl, hf⟩ := DataW.trod_struct hu h
  refine ⟨n, hl, fun i f hi => ?_⟩
  have hlt : i < xs.length := by rw [hxl]; exact (Array.getElem?_eq_some_iff.1 hi).1
  refine ⟨xs[i], by rw [hf i f hi, List.getElem?_eq_getElem hlt], ?_⟩
  have := bulk_mem (d := xs[i].1) (l := xs.map (·.1)) (List.mem_map.2 ⟨xs[i], List.getElem_mem hlt, rfl⟩)
  show _ ≤ Rows.uptoBulk (DataW.agg (xs.map (·.1)))
  simp only [Rows.uptoBulk]; omega
theorem str_b (h : DataW.trod enc Tryz.prog w base sp held fuel 9 cs = some x) : ∃ s : Bytes, cs = [.string (str s)] ∧ s.length ≤ Rows.uptoBulk x.1 := by
  obtain ⟨s, rfl, rfl, hs⟩ := DataW.trod_string Tryz.underlying9 h
  refine ⟨s.data.toList, by rw [str_of], ?_⟩
  simp only [Rows.uptoBulk]
  omega
theorem two_of {a b : Value} (hl : cs.length = 2) (h0 : (cs.drop 0).take 1 = [a]) (h1 : (cs.drop 1).take 1 = [b]) : cs = [a, b] := by
  match cs, hl with
  | [u, v], _ => simp at h0 h1; rw [h0, h1]
theorem three_of {a b c : Value} (hl : cs.length = 3) (h0 : (cs.drop 0).take 1 = [a]) (h1 : (cs.drop 1).take 1 = [b]) (h2 : (cs.drop 2).take 1 = [c]) : cs = [a, b, c] := by
  match cs, hl with
  | [u, v, y], _ => simp at h0 h1 h2; rw [h0, h1, h2]
set_option maxRecDepth 100000 in
theorem pair_of (h : DataW.trod enc Tryz.prog w base sp held fuel 134 cs = some x) : ∃ p : Bytes × Bytes, cs = [.string (str p.1), .string (str p.2)] ∧ p.1.length ≤ Rows.uptoBulk x.1 ∧ p.2.length ≤ Rows.uptoBulk x.1 := by
  obtain ⟨n, hl, hf⟩ := fld Tryz.underlying134 h
  obtain ⟨y0, h0, b0⟩ := hf 0 _ rfl
  obtain ⟨y1, h1, b1⟩ := hf 1 _ rfl
  obtain ⟨s, e0, c0⟩ := str_b h0
  obtain ⟨t, e1, c1⟩ := str_b h1
  have e2 := two_of (hl.trans (by kernel_rfl)) e0 e1
  exact ⟨(s, t), e2, by show s.length ≤ _; omega, by show t.length ≤ _; omega⟩
theorem cells_at {a : Addr} {k n i : Nat} {cs' : List Value} (h : w.cells? base (a.add (i * k)) n = some cs') : ∀ j u, cs'[j]? = some u → w.cell? (a.add (i * k + j)) = some u := by
  obtain ⟨_, hlen, hcell⟩ := World.cells?_some h
  intro j u hu
  have hj : j < n := by rw [← hlen]; exact (List.getElem?_eq_some_iff.1 hu).1
  have := hcell j hj
  rw [Go.Deep.add_add] at this
  rw [this, hu]
set_option maxRecDepth 100000 in
theorem prs_of (h : DataW.trod enc Tryz.prog w base sp held fuel 63 cs = some x) : ∃ V l, cs = [V] ∧ PrsC w V l ∧ (∀ p ∈ l, p.1.length ≤ Rows.uptoBulk x.1 ∧ p.2.length ≤ Rows.uptoBulk x.1) ∧ l.length ≤ Rows.uptoBulk x.1 := by
  rcases Go.Deep.open_slice Tryz.underlying63 h with ⟨rfl, rfl⟩ | ⟨a, len, cap, m, n, D, Pl, rfl, _, hl, hm, hmm, hx, hel⟩
  · exact ⟨_, [], rfl, ⟨⟨none, 0, rfl⟩, fun i x hi => by simp at hi⟩, by simp, by simp⟩
  · have hle : len ≤ m := by rw [hmm]; split <;> omega
    have hB : ∀ i, i < len → Rows.uptoBulk (D i) ≤ Rows.uptoBulk x.1 := by
      intro i hi
      subst hx
      have := bulk_mem (d := D i) (l := (List.range len).map D) (List.mem_map.2 ⟨i, List.mem_range.2 hi, rfl⟩)
      simp only [Rows.uptoBulk]; omega
    have key : ∀ i, i < len → ∃ p : Bytes × Bytes, (w.cell? (a.add (i * 2 + 0)) = some (.string (str p.1)) ∧ w.cell? (a.add (i * 2 + 1)) = some (.string (str p.2))) ∧ p.1.length ≤ Rows.uptoBulk x.1 ∧ p.2.length ≤ Rows.uptoBulk x.1 := by
      intro i hi
      obtain ⟨cs', h1, h2⟩ := hel i (by omega)
      obtain ⟨p, rfl, b1, b2⟩ := pair_of h2
      have hc : Tryz.prog.cellsOf 134 = 2 := by kernel_rfl
      rw [hc] at h1
      have hb := hB i hi
      dsimp only at b1 b2
      exact ⟨p, ⟨cells_at h1 0 _ rfl, cells_at h1 1 _ rfl⟩, by omega, by omega⟩
    obtain ⟨f, hf⟩ := Go.Deep.choose_lt key
    refine ⟨_, (List.range len).map f, rfl, ⟨⟨some a, cap, by simp⟩, fun i p hi => ?_⟩, ?_, ?_⟩
    · have hi' : i < len := by have := (List.getElem?_eq_some_iff.1 hi).1; simpa using this
      have hp : f i = p := by simpa [hi'] using hi
      obtain ⟨⟨k0, k1⟩, _⟩ := hf i hi'
      rw [hp] at k0 k1
      exact ⟨a, len, cap, rfl, by simpa using k0, by rw [add_addj a (i * 2) 1 (by omega)] at k1; exact k1⟩
    · intro p hp
      obtain ⟨i, hi, rfl⟩ := List.mem_map.1 hp
      exact (hf i (List.mem_range.1 hi)).2
    · subst hx
      have := bulk_len ((List.range len).map D)
      simp only [Rows.uptoBulk, List.length_map, List.length_range] at this ⊢; omega
set_option maxRecDepth 100000 in
theorem al_of (h : DataW.trod enc Tryz.prog w base sp held fuel 65 cs = some x) : ∃ (a : AlM) (L : Value), cs = [L, .int .i64 a.start, .int .i64 a.stop] ∧ PrsC w L a.labels ∧ OkAl (Rows.uptoBulk x.1) a := by
  obtain ⟨n, hl, hf⟩ := fld Tryz.underlying65 h
  obtain ⟨y0, h0, b0⟩ := hf 0 _ rfl
  obtain ⟨y1, h1, b1⟩ := hf 1 _ rfl
  obtain ⟨y2, h2, b2⟩ := hf 2 _ rfl
  obtain ⟨V, l, e0, hV, c0, c0'⟩ := prs_of h0
  obtain ⟨s, e1, -, w1⟩ := DataW.trod_int Tryz.underlying3 h1
  obtain ⟨t, e2, -, w2⟩ := DataW.trod_int Tryz.underlying3 h2
  have e3 := three_of (hl.trans (by kernel_rfl)) e0 e1 e2
  exact ⟨⟨l, s, t⟩, V, e3, hV, ⟨w1, w2, fun p hp => ⟨Nat.le_trans (c0 p hp).1 b0, Nat.le_trans (c0 p hp).2 b0⟩, Nat.le_trans c0' b0⟩⟩
set_option maxRecDepth 100000 in
theorem als_of {A : Option Addr} {len cap : Nat} {d : DataW H} {ps : List MemPlace} (hx : DataW.Trod enc Tryz.prog w base sp held 24 (.slice A len cap) d ps) :
    ∃ l : List AlM, AlsC w (.slice A len cap) l ∧ len = l.length ∧ len ≤ maxLen ∧ ∀ a ∈ l, OkAl (Rows.uptoBulk d) a := by
  obtain ⟨fuel, h⟩ := hx
  rcases Go.Deep.open_slice Tryz.underlying24 h with ⟨e, e'⟩ | ⟨a, len', cap', m, n, D, Pl, e, _, hl, hm, hmm, hx, hel⟩
  · have e : [Value.slice A len cap] = [.slice none 0 0] := e
    simp only [List.cons.injEq, Value.slice.injEq, and_true] at e
    obtain ⟨rfl, rfl, rfl⟩ := e
    exact ⟨[], ⟨⟨none, 0, rfl⟩, fun i x hi => by simp at hi⟩, rfl, Nat.zero_le _, by simp⟩
  · have e : [Value.slice A len cap] = [.slice (some a) len' cap'] := e
    simp only [List.cons.injEq, Value.slice.injEq, and_true] at e
    obtain ⟨rfl, rfl, rfl⟩ := e
    have hle : len ≤ m := by rw [hmm]; split <;> omega
    simp only [Prod.mk.injEq] at hx
    have hB : ∀ i, i < len → Rows.uptoBulk (D i) ≤ Rows.uptoBulk d := by
      intro i hi
      rw [hx.1]
      have := bulk_mem (d := D i) (l := (List.range len).map D) (List.mem_map.2 ⟨i, List.mem_range.2 hi, rfl⟩)
      simp only [Rows.uptoBulk]; omega
    have key : ∀ i, i < len → ∃ x : AlM, (∃ L, w.cell? (a.add (i * 3 + 0)) = some L ∧ PrsC w L x.labels ∧ w.cell? (a.add (i * 3 + 1)) = some (.int .i64 x.start) ∧ w.cell? (a.add (i * 3 + 2)) = some (.int .i64 x.stop)) ∧ OkAl (Rows.uptoBulk d) x := by
      intro i hi
      obtain ⟨cs', h1, h2⟩ := hel i (by omega)
      obtain ⟨x, L, rfl, hP, hO⟩ := al_of h2
      have hc : Tryz.prog.cellsOf 65 = 3 := by kernel_rfl
      rw [hc] at h1
      exact ⟨x, ⟨L, cells_at h1 0 _ rfl, hP, cells_at h1 1 _ rfl, cells_at h1 2 _ rfl⟩, hO.mono (hB i hi)⟩
    obtain ⟨f, hf⟩ := Go.Deep.choose_lt key
    refine ⟨(List.range len).map f, ⟨⟨some a, cap, by simp⟩, fun i x hi => ?_⟩, by simp, Nat.le_trans hl hm, ?_⟩
    · have hi' : i < len := by have := (List.getElem?_eq_some_iff.1 hi).1; simpa using this
      have hp : f i = x := by simpa [hi'] using hi
      obtain ⟨⟨L, k0, kP, k1, k2⟩, _⟩ := hf i hi'
      rw [hp] at kP k1 k2
      exact ⟨a, len, cap, L, rfl, by simpa using k0, kP, by rw [add_addj a (i * 3) 1 (by omega)] at k1; exact k1, by rw [add_addj a (i * 3) 2 (by omega)] at k2; exact k2⟩
    · intro x hp
      obtain ⟨i, hi, rfl⟩ := List.mem_map.1 hp
      exact (hf i (List.mem_range.1 hi)).2
end
end Go.Proofs.YtcdeikhfmllkdaaGreatDoor
