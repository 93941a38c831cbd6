/- request: alerts in memory. -/
import Derived.Test.YtcdeikhfmllkdaaGreatDoorRpA
namespace Go.Proofs.YtcdeikhfmllkdaaGreatDoor
open Go.RowKit
set_option linter.unusedVariables false
set_option linter.unusedSimpArgs false
instance : Inhabited AlM := ⟨⟨[], 0, 0⟩⟩
theorem add_addj (a : Addr) (n j : Nat) (hj : 0 < j) : a.add (n + j) = ⟨(a.add n).block, (a.add n).off + j, none⟩ := by
  unfold Addr.add
  rw [if_neg (by omega)]
  split
  · next h => subst h; simp
  · simp [Nat.add_assoc]
/-- A slice of pairs that reads as a list. -/
structure PrsC (w : World) (V : Value) (l : List (Bytes × Bytes)) : Prop where
  form : ∃ p cap, V = .slice p l.length cap
  cells : ∀ i x, l[i]? = some x → ∃ a n cap, V = .slice (some a) n cap ∧ w.cell? (a.add (i * 2)) = some (.string (str x.1)) ∧ w.cell? ⟨(a.add (i * 2)).block, (a.add (i * 2)).off + 1, none⟩ = some (.string (str x.2))
theorem PrsC.below {w w' : World} {V : Value} {l : List (Bytes × Bytes)} (h : PrsC w V l) {B : Nat} (hB : w.heap.size ≤ B) (b : Below B w w') : PrsC w' V l :=
  ⟨h.form, fun i x hi => by
    obtain ⟨a, n, cap, e, h0, h1⟩ := h.cells i x hi
    have l0 := World.block_lt_of_cell? w _ h0
    have l1 := World.block_lt_of_cell? w _ h1
    exact ⟨a, n, cap, e, (b.cell (Nat.lt_of_lt_of_le l0 hB)).trans h0, (b.cell (Nat.lt_of_lt_of_le l1 hB)).trans h1⟩⟩
theorem PrsC.at {w : World} {V : Value} {l : List (Bytes × Bytes)} (h : PrsC w V l) {i : Nat} {x : Bytes × Bytes} (hi : l[i]? = some x) :
    ∃ a cap, V = .slice (some a) l.length cap ∧ w.cell? (a.add (i * 2)) = some (.string (str x.1)) ∧ w.cell? ⟨(a.add (i * 2)).block, (a.add (i * 2)).off + 1, none⟩ = some (.string (str x.2)) := by
  obtain ⟨p, cap, e⟩ := h.form
  obtain ⟨a, n, cap', e', h0, h1⟩ := h.cells i x hi
  rw [e] at e'
  simp only [Value.slice.injEq] at e'
  obtain ⟨rfl, rfl, rfl⟩ := e'
  exact ⟨a, cap, e, h0, h1⟩
/-- A slice of alerts that reads as a list. -/
structure AlsC (w : World) (V : Value) (l : List AlM) : Prop where
  form : ∃ p cap, V = .slice p l.length cap
  cells : ∀ i x, l[i]? = some x → ∃ a n cap L, V = .slice (some a) n cap ∧ w.cell? (a.add (i * 3)) = some L ∧ PrsC w L x.labels ∧ w.cell? ⟨(a.add (i * 3)).block, (a.add (i * 3)).off + 1, none⟩ = some (.int .i64 x.start) ∧ w.cell? ⟨(a.add (i * 3)).block, (a.add (i * 3)).off + 2, none⟩ = some (.int .i64 x.stop)
theorem AlsC.below {w w' : World} {V : Value} {l : List AlM} (h : AlsC w V l) {B : Nat} (hB : w.heap.size ≤ B) (b : Below B w w') : AlsC w' V l :=
  ⟨h.form, fun i x hi => by
    obtain ⟨a, n, cap, L, e, h0, hp, h1, h2⟩ := h.cells i x hi
    have l0 := World.block_lt_of_cell? w _ h0
    have l1 := World.block_lt_of_cell? w _ h1
    have l2 := World.block_lt_of_cell? w _ h2
    exact ⟨a, n, cap, L, e, (b.cell (Nat.lt_of_lt_of_le l0 hB)).trans h0, hp.below hB b, (b.cell (Nat.lt_of_lt_of_le l1 hB)).trans h1, (b.cell (Nat.lt_of_lt_of_le l2 hB)).trans h2⟩⟩
theorem AlsC.at {w : World} {V : Value} {l : List AlM} (h : AlsC w V l) {i : Nat} {x : AlM} (hi : l[i]? = some x) :
    ∃ a cap L, V = .slice (some a) l.length cap ∧ w.cell? (a.add (i * 3)) = some L ∧ PrsC w L x.labels ∧ w.cell? ⟨(a.add (i * 3)).block, (a.add (i * 3)).off + 1, none⟩ = some (.int .i64 x.start) ∧ w.cell? ⟨(a.add (i * 3)).block, (a.add (i * 3)).off + 2, none⟩ = some (.int .i64 x.stop) := by
  obtain ⟨p, cap, e⟩ := h.form
  obtain ⟨a, n, cap', L, e', h0, hp, h1, h2⟩ := h.cells i x hi
  rw [e] at e'
  simp only [Value.slice.injEq] at e'
  obtain ⟨rfl, rfl, rfl⟩ := e'
  exact ⟨a, cap, L, e, h0, hp, h1, h2⟩
end Go.Proofs.YtcdeikhfmllkdaaGreatDoor
