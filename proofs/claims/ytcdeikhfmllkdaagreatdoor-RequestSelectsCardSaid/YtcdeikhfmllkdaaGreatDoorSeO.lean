/- Alerts and matchers as they come, opened, whatever their bulk. -/
import Derived.Test.YtcdeikhfmllkdaaGreatDoorRpO
import Derived.Test.YtcdeikhfmllkdaaGreatDoorSe1
namespace Go.Proofs.YtcdeikhfmllkdaaGreatDoor
open Go.RowKit
set_option linter.unusedVariables false
set_option linter.unusedSimpArgs false
section
variable {H : Type} {enc : TypeId × Value → H} {w : World} {base : Nat} {sp : Nat → Bool} {held : Bool} {fuel : Nat} {cs : List Value} {x : DataW H × List MemPlace}
theorem fld' {fs : Array Field} {t : TypeId} (hu : Tryz.prog.underlying t = some (.struct fs)) (h : DataW.trod enc Tryz.prog w base sp held fuel t cs = some x) :
    ∃ n, cs.length = Tryz.prog.cellsOf t ∧ ∀ (i : Nat) (f : Field), fs[i]? = some f → ∃ y, DataW.trod enc Tryz.prog w base sp held n f.type ((cs.drop f.offset).take (Tryz.prog.cellsOf f.type)) = some y := by
  obtain ⟨n, hl, hf⟩ := fld hu h
  exact ⟨n, hl, fun i f hi => let ⟨y, hy, _⟩ := hf i f hi; ⟨y, hy⟩⟩
theorem str_m (h : DataW.trod enc Tryz.prog w base sp held fuel 9 cs = some x) : ∃ s : Bytes, cs = [.string (str s)] ∧ s.length ≤ maxLen := by
  obtain ⟨s, rfl, rfl, hs⟩ := DataW.trod_string Tryz.underlying9 h
  exact ⟨s.data.toList, by rw [str_of], hs⟩
set_option maxRecDepth 100000 in
theorem pair_m (h : DataW.trod enc Tryz.prog w base sp held fuel 134 cs = some x) : ∃ p : Bytes × Bytes, cs = [.string (str p.1), .string (str p.2)] ∧ p.1.length ≤ maxLen ∧ p.2.length ≤ maxLen := by
  obtain ⟨n, hl, hf⟩ := fld' Tryz.underlying134 h
  obtain ⟨y0, h0⟩ := hf 0 _ rfl
  obtain ⟨y1, h1⟩ := hf 1 _ rfl
  obtain ⟨s, e0, c0⟩ := str_m h0
  obtain ⟨t, e1, c1⟩ := str_m h1
  exact ⟨(s, t), two_of (hl.trans (by kernel_rfl)) e0 e1, c0, c1⟩
set_option maxRecDepth 100000 in
theorem prs_m (h : DataW.trod enc Tryz.prog w base sp held fuel 63 cs = some x) : ∃ V l, cs = [V] ∧ PrsC w V l ∧ (∀ p ∈ l, p.1.length ≤ maxLen ∧ p.2.length ≤ maxLen) ∧ l.length ≤ maxLen := by
  rcases Go.Deep.open_slice Tryz.underlying63 h with ⟨rfl, rfl⟩ | ⟨a, len, cap, m, n, D, Pl, rfl, _, hl, hm, hmm, hx, hel⟩
  · exact ⟨_, [], rfl, ⟨⟨none, 0, rfl⟩, fun i x hi => by simp at hi⟩, by simp, by simp⟩
  · have hle : len ≤ m := by rw [hmm]; split <;> omega
    have key : ∀ i, i < len → ∃ p : Bytes × Bytes, (w.cell? (a.add (i * 2 + 0)) = some (.string (str p.1)) ∧ w.cell? (a.add (i * 2 + 1)) = some (.string (str p.2))) ∧ p.1.length ≤ maxLen ∧ p.2.length ≤ maxLen := by
      intro i hi
      obtain ⟨cs', h1, h2⟩ := hel i (by omega)
      obtain ⟨p, rfl, b1, b2⟩ := pair_m h2
      have hc : Tryz.prog.cellsOf 134 = 2 := by kernel_rfl
      rw [hc] at h1
      exact ⟨p, ⟨cells_at h1 0 _ rfl, cells_at h1 1 _ rfl⟩, b1, b2⟩
    obtain ⟨f, hf⟩ := Go.Deep.choose_lt key
    refine ⟨_, (List.range len).map f, rfl, ⟨⟨some a, cap, by simp⟩, fun i p hi => ?_⟩, ?_, ?_⟩
    · have hi' : i < len := by have := (List.getElem?_eq_some_iff.1 hi).1; simpa using this
      have hp : f i = p := by simpa [hi'] using hi
      obtain ⟨⟨k0, k1⟩, _⟩ := hf i hi'
      rw [hp] at k0 k1
      exact ⟨a, len, cap, rfl, by simpa using k0, by rw [add_addj a (i * 2) 1 (by omega)] at k1; exact k1⟩
    · intro p hp
      obtain ⟨i, hi, rfl⟩ := List.mem_map.1 hp
      exact (hf i (List.mem_range.1 hi)).2
    · simp; omega
set_option maxRecDepth 100000 in
theorem al_m (h : DataW.trod enc Tryz.prog w base sp held fuel 65 cs = some x) : ∃ (a : AlM) (L : Value), cs = [L, .int .i64 a.start, .int .i64 a.stop] ∧ PrsC w L a.labels ∧ OkAl maxLen a := by
  obtain ⟨n, hl, hf⟩ := fld' Tryz.underlying65 h
  obtain ⟨y0, h0⟩ := hf 0 _ rfl
  obtain ⟨y1, h1⟩ := hf 1 _ rfl
  obtain ⟨y2, h2⟩ := hf 2 _ rfl
  obtain ⟨V, l, e0, hV, c0, c0'⟩ := prs_m h0
  obtain ⟨s, e1, -, w1⟩ := DataW.trod_int Tryz.underlying3 h1
  obtain ⟨t, e2, -, w2⟩ := DataW.trod_int Tryz.underlying3 h2
  exact ⟨⟨l, s, t⟩, V, three_of (hl.trans (by kernel_rfl)) e0 e1 e2, hV, ⟨w1, w2, c0, c0'⟩⟩
set_option maxRecDepth 100000 in
theorem als_m (h : DataW.trod enc Tryz.prog w base sp held fuel 24 cs = some x) : ∃ V l, cs = [V] ∧ AlsC w V l ∧ (∀ a ∈ l, OkAl maxLen a) ∧ l.length ≤ maxLen := by
  rcases Go.Deep.open_slice Tryz.underlying24 h with ⟨rfl, rfl⟩ | ⟨a, len, cap, m, n, D, Pl, rfl, _, hl, hm, hmm, hx, hel⟩
  · exact ⟨_, [], rfl, ⟨⟨none, 0, rfl⟩, fun i x hi => by simp at hi⟩, by simp, by simp⟩
  · have hle : len ≤ m := by rw [hmm]; split <;> omega
    have key : ∀ i, i < len → ∃ x : AlM, (∃ L, w.cell? (a.add (i * 3 + 0)) = some L ∧ PrsC w L x.labels ∧ w.cell? (a.add (i * 3 + 1)) = some (.int .i64 x.start) ∧ w.cell? (a.add (i * 3 + 2)) = some (.int .i64 x.stop)) ∧ OkAl maxLen x := by
      intro i hi
      obtain ⟨cs', h1, h2⟩ := hel i (by omega)
      obtain ⟨x, L, rfl, hP, hO⟩ := al_m h2
      have hc : Tryz.prog.cellsOf 65 = 3 := by kernel_rfl
      rw [hc] at h1
      exact ⟨x, ⟨L, cells_at h1 0 _ rfl, hP, cells_at h1 1 _ rfl, cells_at h1 2 _ rfl⟩, hO⟩
    obtain ⟨f, hf⟩ := Go.Deep.choose_lt key
    refine ⟨_, (List.range len).map f, rfl, ⟨⟨some a, cap, by simp⟩, fun i x hi => ?_⟩, ?_, by simp; omega⟩
    · have hi' : i < len := by have := (List.getElem?_eq_some_iff.1 hi).1; simpa using this
      have hp : f i = x := by simpa [hi'] using hi
      obtain ⟨⟨L, k0, kP, k1, k2⟩, _⟩ := hf i hi'
      rw [hp] at kP k1 k2
      exact ⟨a, len, cap, L, rfl, by simpa using k0, kP, by rw [add_addj a (i * 3) 1 (by omega)] at k1; exact k1, by rw [add_addj a (i * 3) 2 (by omega)] at k2; exact k2⟩
    · intro x hp
      obtain ⟨i, hi, rfl⟩ := List.mem_map.1 hp
      exact (hf i (List.mem_range.1 hi)).2
set_option maxRecDepth 100000 in
theorem mt_m (h : DataW.trod enc Tryz.prog w base sp held fuel 75 cs = some x) : ∃ m : MtM, cs = [.string (str m.name), .int .u8 m.kind, .string (str m.value)] ∧ MtOk m := by
  obtain ⟨n, hl, hf⟩ := fld' Tryz.underlying75 h
  obtain ⟨y0, h0⟩ := hf 0 _ rfl
  obtain ⟨y1, h1⟩ := hf 1 _ rfl
  obtain ⟨y2, h2⟩ := hf 2 _ rfl
  obtain ⟨s, e0, c0⟩ := str_m h0
  obtain ⟨k, e1, -, w1⟩ := DataW.trod_int Tryz.underlying73 h1
  obtain ⟨t, e2, c2⟩ := str_m h2
  have hk := (Lit.wf_int_iff .u8 k).1 w1
  have hk0 : 0 ≤ k := hk.1
  have hk1 : k ≤ 255 := hk.2
  obtain ⟨k, rfl⟩ := Int.eq_ofNat_of_zero_le hk0
  exact ⟨⟨s, k, t⟩, three_of (hl.trans (by kernel_rfl)) e0 e1 e2, ⟨c0, by show k < 256; omega, c2⟩⟩
set_option maxRecDepth 100000 in
theorem mts_m (h : DataW.trod enc Tryz.prog w base sp held fuel 25 cs = some x) : ∃ V l, cs = [V] ∧ MtsC w V l ∧ (∀ m ∈ l, MtOk m) ∧ l.length ≤ maxLen := by
  rcases Go.Deep.open_slice Tryz.underlying25 h with ⟨rfl, rfl⟩ | ⟨a, len, cap, m, n, D, Pl, rfl, _, hl, hm, hmm, hx, hel⟩
  · exact ⟨_, [], rfl, ⟨⟨none, 0, rfl⟩, fun i x hi => by simp at hi⟩, by simp, by simp⟩
  · have hle : len ≤ m := by rw [hmm]; split <;> omega
    have key : ∀ i, i < len → ∃ x : MtM, (w.cell? (a.add (i * 3 + 0)) = some (.string (str x.name)) ∧ w.cell? (a.add (i * 3 + 1)) = some (.int .u8 x.kind) ∧ w.cell? (a.add (i * 3 + 2)) = some (.string (str x.value))) ∧ MtOk x := by
      intro i hi
      obtain ⟨cs', h1, h2⟩ := hel i (by omega)
      obtain ⟨x, rfl, hO⟩ := mt_m h2
      have hc : Tryz.prog.cellsOf 75 = 3 := by kernel_rfl
      rw [hc] at h1
      exact ⟨x, ⟨cells_at h1 0 _ rfl, cells_at h1 1 _ rfl, cells_at h1 2 _ rfl⟩, hO⟩
    obtain ⟨f, hf⟩ := Go.Deep.choose_lt key
    refine ⟨_, (List.range len).map f, rfl, ⟨⟨some a, cap, by simp⟩, fun i x hi => ?_⟩, ?_, by simp; omega⟩
    · have hi' : i < len := by have := (List.getElem?_eq_some_iff.1 hi).1; simpa using this
      have hp : f i = x := by simpa [hi'] using hi
      obtain ⟨⟨k0, k1, k2⟩, _⟩ := hf i hi'
      rw [hp] at k0 k1 k2
      exact ⟨a, len, cap, rfl, by simpa using k0, by rw [add_addj a (i * 3) 1 (by omega)] at k1; exact k1, by rw [add_addj a (i * 3) 2 (by omega)] at k2; exact k2⟩
    · intro x hp
      obtain ⟨i, hi, rfl⟩ := List.mem_map.1 hp
      exact (hf i (List.mem_range.1 hi)).2
theorem als_arg {A : Option Addr} {len cap : Nat} {d : DataW H} {ps : List MemPlace} (hx : DataW.Trod enc Tryz.prog w base sp held 24 (.slice A len cap) d ps) :
    ∃ l : List AlM, AlsC w (.slice A len cap) l ∧ len = l.length ∧ len ≤ maxLen ∧ ∀ a ∈ l, OkAl maxLen a := by
  obtain ⟨fuel, h⟩ := hx
  obtain ⟨V, l, e, hV, h1, h2⟩ := als_m h
  have e : [Value.slice A len cap] = [V] := e
  simp only [List.cons.injEq, and_true] at e
  subst e
  obtain ⟨p, c, e⟩ := hV.form
  simp only [Value.slice.injEq] at e
  obtain ⟨-, rfl, -⟩ := e
  exact ⟨l, hV, rfl, h2, h1⟩
theorem mts_arg {A : Option Addr} {len cap : Nat} {d : DataW H} {ps : List MemPlace} (hx : DataW.Trod enc Tryz.prog w base sp held 25 (.slice A len cap) d ps) :
    ∃ l : List MtM, MtsC w (.slice A len cap) l ∧ len = l.length ∧ len ≤ maxLen ∧ ∀ m ∈ l, MtOk m := by
  obtain ⟨fuel, h⟩ := hx
  obtain ⟨V, l, e, hV, h1, h2⟩ := mts_m h
  have e : [Value.slice A len cap] = [V] := e
  simp only [List.cons.injEq, and_true] at e
  subst e
  obtain ⟨p, c, e⟩ := hV.form
  simp only [Value.slice.injEq] at e
  obtain ⟨-, rfl, -⟩ := e
  exact ⟨l, hV, rfl, h2, h1⟩
end
end Go.Proofs.YtcdeikhfmllkdaaGreatDoor
