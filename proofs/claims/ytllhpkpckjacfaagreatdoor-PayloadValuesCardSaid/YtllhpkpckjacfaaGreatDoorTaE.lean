/- Rows in memory: a slice whose cells stand for things; words, filters, nodes of a template. -/
import Derived.Test.YtllhpkpckjacfaaGreatDoorTaD
namespace Go.Proofs.YtllhpkpckjacfaaGreatDoor
open Go.RowKit Go.Proofs.YtllhpkpckjacfaaGreatDoorW.PrintWords PTemplateFilters
set_option linter.unusedVariables false
set_option linter.unusedSimpArgs false

/-- A slice whose cells stand for these things; it lies in one of ok's blocks. -/
structure RowK {α : Type} (ok : Nat → Prop) (w : World) (P : Value → α → Prop) (V : Value) (l : List α) : Prop where
  form : ∃ A c, V = .slice A l.length c ∧ l.length ≤ c
  cells : ∀ j x, l[j]? = some x → ∃ ad n c v, V = .slice (some ad) n c ∧ ok ad.block ∧ w.cell? (ad.add j) = some v ∧ P v x
section
variable {α : Type} {ok ok' : Nat → Prop} {w w' : World} {P P' : Value → α → Prop} {V : Value} {l : List α}
theorem RowK.imp (h : RowK ok w P V l) (hp : ∀ v x, x ∈ l → P v x → P' v x) : RowK ok w P' V l :=
  ⟨h.form, fun j x hj => by
    obtain ⟨ad, n, c, v, e, ho, hc, hv⟩ := h.cells j x hj
    exact ⟨ad, n, c, v, e, ho, hc, hp v x (List.mem_of_getElem? hj) hv⟩⟩
theorem RowK.mono (h : RowK ok w P V l) (ho : ∀ k, ok k → ok' k) : RowK ok' w P V l :=
  ⟨h.form, fun j x hj => by
    obtain ⟨ad, n, c, v, e, h1, hc, hv⟩ := h.cells j x hj
    exact ⟨ad, n, c, v, e, ho _ h1, hc, hv⟩⟩
/-- The world turns, but for its blocks. -/
def Same (ok : Nat → Prop) (w w' : World) : Prop := ∀ k, ok k → k < w.heap.size → w'.heap[k]? = w.heap[k]?
theorem same_below {B : Nat} (hb : Below B w w') (h : w.heap.size ≤ B) : Same ok w w' := fun k _ hk => hb.block k (by omega)
theorem Same.cell (h : Same ok w w') {p : Addr} {v : Value} (hk : ok p.block) (hc : w.cell? p = some v) : w'.cell? p = some v := by
  have hlt := World.block_lt_of_cell? w _ hc
  rw [World.cell?_of_block (w := w) (h p.block hk hlt)]
  exact hc
theorem RowK.move (h : RowK ok w P V l) (hm : Same ok w w') : RowK ok w' P V l :=
  ⟨h.form, fun j x hj => by
    obtain ⟨ad, n, c, v, e, h1, hc, hv⟩ := h.cells j x hj
    exact ⟨ad, n, c, v, e, h1, hm.cell (by rw [add_block]; exact h1) hc, hv⟩⟩
theorem RowK.empty (ok : Nat → Prop) (w : World) (P : Value → α → Prop) (A : Option Addr) (c : Nat) : RowK ok w P (.slice A 0 c) ([] : List α) :=
  ⟨⟨A, c, rfl, Nat.zero_le _⟩, fun j x hj => by simp at hj⟩
theorem RowK.take {A : Option Addr} {n c : Nat} (h : RowK ok w P (.slice A n c) l) {i : Nat} (hi : i ≤ l.length) : RowK ok w P (.slice A i c) (l.take i) := by
  obtain ⟨A', c', e, hc⟩ := h.form
  injection e with e1 e2 e3
  subst e1 e2 e3
  refine ⟨⟨A, c, by rw [List.length_take, Nat.min_eq_left hi], by rw [List.length_take]; omega⟩, fun j x hj => ?_⟩
  rw [List.getElem?_take] at hj
  split at hj
  · obtain ⟨ad, n2, c2, v, e, h1, h2, h3⟩ := h.cells j x hj
    injection e with e1 e2 e3
    exact ⟨ad, i, c, v, by rw [e1], h1, h2, h3⟩
  · cases hj
theorem RowK.drop {ad : Addr} {n c : Nat} (h : RowK ok w P (.slice (some ad) n c) l) {i c2 : Nat} (hi : i ≤ l.length) (hc2 : l.length - i ≤ c2) : RowK ok w P (.slice (some (ad.add i)) (l.length - i) c2) (l.drop i) := by
  refine ⟨⟨some (ad.add i), c2, by rw [List.length_drop], by rw [List.length_drop]; exact hc2⟩, fun j x hj => ?_⟩
  rw [List.getElem?_drop] at hj
  obtain ⟨ad1, n2, c3, v, e, h1, h2, h3⟩ := h.cells (i + j) x hj
  injection e with e1 e2 e3
  injection e1 with e1
  subst e1
  exact ⟨ad.add i, _, c2, v, rfl, by rw [add_block]; exact h1, by rw [Addr.add_add]; exact h2, h3⟩
/-- The end of a row, whatever its address says. -/
theorem RowK.ended (ok : Nat → Prop) (w : World) (P : Value → α → Prop) (A : Option Addr) (c : Nat) {i : Nat} (hi : l.length ≤ i) : RowK ok w P (.slice A 0 c) (l.drop i) := by
  rw [List.drop_eq_nil_of_le hi]
  exact RowK.empty _ _ _ _ _
theorem RowK.at (h : RowK ok w P V l) {j : Nat} (hj : j < l.length) : ∃ ad c v, V = .slice (some ad) l.length c ∧ ok ad.block ∧ w.cell? (ad.add j) = some v ∧ P v l[j] := by
  obtain ⟨A, c, e, _⟩ := h.form
  obtain ⟨ad, n, c2, v, e2, h1, h2, h3⟩ := h.cells j _ (List.getElem?_eq_getElem hj)
  have e3 := e.symm.trans e2
  injection e3 with e4 e5 e6
  exact ⟨ad, c, v, by rw [e, e4], h1, h2, h3⟩
/-- A row of one's own. -/
theorem RowK.of_own {base e n : Nat} {vs : List Value} (h : w.ownsRow base e 1 V n vs) (hl : l.length = n) (ho : ∀ k, V.ownBlock = some k → ok k) (hp : ∀ (j : Nat) (v : Value) (x : α), vs[j]? = some v → l[j]? = some x → P v x) : RowK ok w P V l := by
  obtain ⟨hn, hv⟩ := h
  rcases hv with ⟨rfl, rfl⟩ | ⟨g, cap, cur, rfl, hb, hg, hnc, hm, hs, ht⟩
  · rw [List.length_eq_zero_iff.1 hl]
    exact RowK.empty _ _ _ _ _
  · refine ⟨⟨some ⟨g, 0, none⟩, cap, by rw [hl], by omega⟩, fun j x hj => ?_⟩
    have hlt := (List.getElem?_eq_some_iff.1 hj).1
    have hv : vs[j]? = cur[j]? := by rw [← ht, List.getElem?_take, if_pos (by omega), Array.getElem?_toList]
    have hlv : j < vs.length := by omega
    refine ⟨⟨g, 0, none⟩, n, cap, vs[j], rfl, ho g rfl, ?_, hp j _ x (List.getElem?_eq_getElem hlv) hj⟩
    have : w.cell? ⟨g, 0 + j, none⟩ = cur[0 + j]? := by simp [World.cell?, hg]
    have hA : (⟨g, 0, none⟩ : Addr).add j = ⟨g, 0 + j, none⟩ := by unfold Addr.add; split <;> simp_all
    rw [hA, this, Nat.zero_add, ← hv, List.getElem?_eq_getElem hlv]
end

/-- Words. -/
abbrev SsK (ok : Nat → Prop) (w : World) (V : Value) (l : List Bytes) : Prop := RowK ok w (fun v s => v = .string (str s)) V l
theorem SsK.ss {ok : Nat → Prop} {w : World} {V : Value} {l : List Bytes} (h : SsK ok w V l) : Ss w V l :=
  ⟨h.form, fun j s hj => by
    obtain ⟨ad, n, c, v, e, _, hc, rfl⟩ := h.cells j s hj
    exact ⟨ad, n, c, e, hc⟩⟩
theorem SsK.ofC {w : World} {A : Option Addr} {c : Nat} {l : List Bytes} (hc : l.length ≤ c) (h : Kd.string.C w A l.length (l.map str)) {ok : Nat → Prop} (ho : ∀ ad, A = some ad → ok ad.block) : SsK ok w (.slice A l.length c) l := by
  refine ⟨⟨A, c, rfl, hc⟩, fun j s hj => ?_⟩
  have hlt := (List.getElem?_eq_some_iff.1 hj).1
  obtain ⟨ad, e, hx⟩ := h.2.2 (by omega)
  obtain ⟨cs, hcl, hK, hcell⟩ := hx j (str s) (by rw [List.getElem?_map, hj]; rfl)
  have hK' : cs = [.string (str s)] := hK
  subst hK'
  have := hcell 0 _ rfl
  exact ⟨ad, _, c, _, by rw [e], ho ad e, by simpa [Kd.string, Kd.scalar] using this, rfl⟩
theorem SsK.toC {ok : Nat → Prop} {w : World} {A : Option Addr} {n c : Nat} {l : List Bytes} (h : SsK ok w (.slice A n c) l) (hl : l.length ≤ 9223372036854775807) : Kd.string.C w A l.length (l.map str) := by
  refine Kd.C_of_reads (d := ByteArray.empty) ⟨List.length_map _, hl, fun hn => ?_⟩
  obtain ⟨ad, c2, v, e, _, _, _⟩ := h.at hn
  injection e with e1 e2 e3
  refine ⟨ad, e1, fun j hj => ?_⟩
  obtain ⟨ad2, c4, v2, e4, _, hc, rfl⟩ := h.at hj
  injection e4 with e5 _ _
  rw [e1] at e5
  injection e5 with e5
  subst e5
  rw [hc, List.getD_eq_getElem?_getD, List.getElem?_map, List.getElem?_eq_getElem hj]
  rfl
end Go.Proofs.YtllhpkpckjacfaaGreatDoor
