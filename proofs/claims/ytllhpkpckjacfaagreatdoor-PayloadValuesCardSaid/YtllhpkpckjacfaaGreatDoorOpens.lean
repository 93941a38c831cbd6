/- What can be read as data of a type is a value of the print's kind for that type: kind by kind. Plain: no program. -/
import Derived.Test.YtllhpkpckjacfaaGreatDoorWWords
import Derived.ProofKit
import Derived.Deep.Slices
set_option linter.unusedVariables false
namespace Go.Proofs.YtllhpkpckjacfaaGreatDoorOp
open Go Go.RowKit Go.Proofs.YtllhpkpckjacfaaGreatDoorW.PrintWords

/-- What reads as data at type t is an x of kind d that is as 'ok' says. -/
structure Opens {α : Type} (P : Program) (t : TypeId) (d : Kd α) (ok : α → Prop) : Prop where
  opened : ∀ {H : Type} {enc : TypeId × Value → H} {w : World} {base : Nat} {sp : Nat → Bool} {held : Bool} {fuel : Nat} {cs : List Value} {x : DataW H × List MemPlace},
    DataW.trod enc P w base sp held fuel t cs = some x → ∃ a, d.K w a cs ∧ ok a

variable {P : Program}

theorem opens_int {t : TypeId} {k : IntKind} (hu : P.underlying t = some (.int k)) : Opens P t (Kd.int k) (fun a => (Lit.int k a).wf = true) :=
  ⟨fun h => by obtain ⟨n, rfl, _, hw⟩ := DataW.trod_int hu h; exact ⟨n, rfl, hw⟩⟩
theorem opens_bool {t : TypeId} (hu : P.underlying t = some .bool) : Opens P t Kd.bool (fun _ => True) :=
  ⟨fun h => by obtain ⟨n, rfl, _⟩ := DataW.trod_bool hu h; exact ⟨n, rfl, trivial⟩⟩
theorem opens_string {t : TypeId} (hu : P.underlying t = some .string) : Opens P t Kd.string (fun s => s.size ≤ maxLen) :=
  ⟨fun h => by obtain ⟨s, rfl, _, hs⟩ := DataW.trod_string hu h; exact ⟨s, rfl, hs⟩⟩

theorem opens_slice {α : Type} {t e : TypeId} {d : Kd α} {ok : α → Prop} (hu : P.underlying t = some (.slice e)) (hc : P.cellsOf e = d.sz) (he : Opens P e d ok) :
    Opens P t (Kd.slice e d) (fun xs => (∀ x ∈ xs, ok x) ∧ xs.length ≤ maxLen) := by
  refine ⟨fun {H enc w base sp held fuel cs x} h => ?_⟩
  rcases Go.Deep.open_slice hu h with ⟨rfl, _⟩ | ⟨a, len, cap, m, n, D, Pl, rfl, _, hl, hm, hmm, _, hel⟩
  · exact ⟨[], ⟨none, 0, rfl, Nat.le_refl _, ⟨rfl, by simp, fun h => absurd h (by simp)⟩⟩, by simp, by simp⟩
  · have hle : len ≤ m := by rw [hmm]; split <;> omega
    have key : ∀ i, i < len → ∃ y : α, (∃ cs', cs'.length = d.sz ∧ d.K w y cs' ∧ ∀ j u, cs'[j]? = some u → w.cell? (a.add (i * d.sz + j)) = some u) ∧ ok y := by
      intro i hi
      obtain ⟨cs', h1, h2⟩ := hel i (by omega)
      obtain ⟨y, hy, hok⟩ := he.opened h2
      obtain ⟨_, hlen, hcell⟩ := World.cells?_some h1
      refine ⟨y, ⟨cs', by rw [hlen, hc], hy, fun j u hu' => ?_⟩, hok⟩
      have hj : j < P.cellsOf e := by
        rw [← hlen]
        exact (List.getElem?_eq_some_iff.1 hu').1
      have := hcell j hj
      rw [Go.Deep.add_add, hc] at this
      rw [this, hu']
    by_cases hne : len = 0
    · subst hne
      exact ⟨[], ⟨some a, cap, by simp, by simp, ⟨rfl, by simp, fun h => absurd h (by simp)⟩⟩, by simp, by simp⟩
    · obtain ⟨y0, _⟩ := key 0 (by omega)
      have : ∃ f : Nat → α, ∀ i, i < len → (∃ cs', cs'.length = d.sz ∧ d.K w (f i) cs' ∧ ∀ j u, cs'[j]? = some u → w.cell? (a.add (i * d.sz + j)) = some u) ∧ ok (f i) := by
        have : Inhabited α := ⟨y0⟩
        exact Go.Deep.choose_lt key
      obtain ⟨f, hf⟩ := this
      refine ⟨(List.range len).map f, ⟨some a, cap, by simp, by simpa using hl, ⟨rfl, ?_, fun _ => ⟨a, rfl, ?_⟩⟩⟩, ?_, ?_⟩
      · simp only [List.length_map, List.length_range]; unfold maxLen at hm; omega
      · intro j p hp
        have hj : j < len := by
          have := (List.getElem?_eq_some_iff.1 hp).1
          simpa using this
        have hp' : f j = p := by simpa [hj] using hp
        obtain ⟨⟨cs', h1, h2, h3⟩, _⟩ := hf j hj
        exact ⟨cs', h1, hp' ▸ h2, h3⟩
      · intro x hx
        obtain ⟨i, hi, rfl⟩ := List.mem_map.1 hx
        exact (hf i (List.mem_range.1 hi)).2
      · simp; omega

/-- Fields in line, from cell o on. -/
def OpensF {α : Type} (P : Program) (fs : List Field) (o : Nat) (d : Kd α) (ok : α → Prop) : Prop :=
  ∀ {H : Type} {enc : TypeId × Value → H} {w : World} {base : Nat} {sp : Nat → Bool} {held : Bool} {n : Nat} {cs : List Value},
    (∀ f ∈ fs, ∃ x, DataW.trod enc P w base sp held n f.type ((cs.drop f.offset).take (P.cellsOf f.type)) = some x) → cs.length = o + d.sz → ∃ a, d.K w a (cs.drop o) ∧ ok a

theorem OpensF.one {α : Type} {f : Field} {o : Nat} {d : Kd α} {ok : α → Prop} (ho : f.offset = o) (hc : P.cellsOf f.type = d.sz) (h : Opens P f.type d ok) : OpensF P [f] o d ok := by
  intro H enc w base sp held n cs hf hl
  obtain ⟨x, hx⟩ := hf f (by simp)
  obtain ⟨a, ha, hok⟩ := h.opened hx
  refine ⟨a, ?_, hok⟩
  rw [ho, hc, List.take_of_length_le (by rw [List.length_drop]; omega)] at ha
  exact ha

theorem OpensF.cons {α β : Type} {f : Field} {fs : List Field} {o o' : Nat} {d : Kd α} {d' : Kd β} {ok : α → Prop} {ok' : β → Prop} (ho : f.offset = o) (hc : P.cellsOf f.type = d.sz) (h : Opens P f.type d ok) (ho' : o' = o + d.sz) (h' : OpensF P fs o' d' ok') :
    OpensF P (f :: fs) o (Kd.pair d d') (fun x => ok x.1 ∧ ok' x.2) := by
  subst ho'
  intro H enc w base sp held n cs hf hl
  have hl' : cs.length = o + (d.sz + d'.sz) := hl
  obtain ⟨x, hx⟩ := hf f (by simp)
  obtain ⟨a, ha, hok⟩ := h.opened hx
  obtain ⟨b, hb, hok'⟩ := h' (fun g hg => hf g (by simp [hg])) (by omega)
  refine ⟨(a, b), ⟨(cs.drop o).take d.sz, cs.drop (o + d.sz), ?_, ?_, hb⟩, hok, hok'⟩
  · rw [← List.drop_drop, List.take_append_drop]
  · rw [ho, hc] at ha
    exact ha

theorem opens_struct {α : Type} {t : TypeId} {fs : Array Field} {d : Kd α} {ok : α → Prop} (hu : P.underlying t = some (.struct fs)) (hc : P.cellsOf t = d.sz) (h : OpensF P fs.toList 0 d ok) : Opens P t d ok := by
  refine ⟨fun {H enc w base sp held fuel cs x} hx => ?_⟩
  obtain ⟨xs, n, _, _, hl, hxl, hf⟩ := DataW.trod_struct hu hx
  obtain ⟨a, ha, hok⟩ := h (w := w) (cs := cs) (enc := enc) (base := base) (sp := sp) (held := held) (n := n) (fun f hfm => by
    obtain ⟨i, hi⟩ := List.getElem?_of_mem hfm
    have hi' : fs[i]? = some f := by simpa using hi
    have hlt : i < xs.length := by rw [hxl]; exact (Array.getElem?_eq_some_iff.1 hi').1
    exact ⟨xs[i], by rw [hf i f hi', List.getElem?_eq_getElem hlt]⟩) (by rw [hl, hc]; omega)
  exact ⟨a, by simpa using ha, hok⟩

theorem opens_iso {α β : Type} {t : TypeId} {d : Kd α} {ok : α → Prop} (h : Opens P t d ok) (f : β → α) (g : α → β) (hfg : ∀ a, f (g a) = a) : Opens P t (Kd.iso d f) (fun b => ok (f b)) := by
  refine ⟨fun hx => ?_⟩
  obtain ⟨a, ha, hok⟩ := h.opened hx
  exact ⟨g a, show d.K _ (f (g a)) _ by rw [hfg]; exact ha, show ok (f (g a)) by rw [hfg]; exact hok⟩

theorem Opens.imp {α : Type} {t : TypeId} {d : Kd α} {ok ok' : α → Prop} (h : Opens P t d ok) (hi : ∀ a, ok a → ok' a) : Opens P t d ok' :=
  ⟨fun hx => by obtain ⟨a, ha, hok⟩ := h.opened hx; exact ⟨a, ha, hi a hok⟩⟩

/-- A slice argument. -/
theorem Opens.slice_arg {α : Type} {t e : TypeId} {d : Kd α} {ok : List α → Prop} (h : Opens P t (Kd.slice e d) ok) {H : Type} {enc : TypeId × Value → H} {w : World} {base : Nat} {sp : Nat → Bool} {held : Bool} {A : Option Addr} {len cap : Nat} {x : DataW H} {ps : List MemPlace}
    (hx : DataW.Trod enc P w base sp held t (.slice A len cap) x ps) : ∃ xs, d.C w A xs.length xs ∧ len = xs.length ∧ xs.length ≤ cap ∧ ok xs := by
  obtain ⟨fuel, hf⟩ := hx
  obtain ⟨xs, ⟨A', c, he, hle, hr⟩, hok⟩ := h.opened hf
  have he' : [Value.slice A len cap] = [.slice A' xs.length c] := he
  simp only [List.cons.injEq, Value.slice.injEq, and_true] at he'
  obtain ⟨rfl, rfl, rfl⟩ := he'
  exact ⟨xs, hr, rfl, hle, hok⟩

end Go.Proofs.YtllhpkpckjacfaaGreatDoorOp
