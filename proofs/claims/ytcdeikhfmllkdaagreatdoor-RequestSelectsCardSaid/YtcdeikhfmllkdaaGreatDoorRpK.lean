/- A field that is appended to, while its box stays. -/
import Derived.Test.YtcdeikhfmllkdaaGreatDoorRpF
import Derived.Deep.AppendLies
namespace Go.Proofs.YtcdeikhfmllkdaaGreatDoor
open Go.RowKit
set_option linter.unusedVariables false
set_option linter.unusedSimpArgs false
/-- The box b has a slice of its own at cell ix, of n elements. -/
structure ApR (w6 wr : World) (b ix : Nat) (cs0 : Array Value) (T E sz n : Nat) : Prop where
  row : ∃ p c cs, wr.heap[b]? = some (.cells (cs0.setIfInBounds ix (.slice p n c)) T) ∧ wr.ownsRow w6.heap.size E sz (.slice p n c) n cs
  turn : Turn (fun k => k = b) w6 wr
theorem ApR.start {w6 : World} {b ix : Nat} {cs0 : Array Value} {T E sz : Nat} (h : w6.heap[b]? = some (.cells (cs0.setIfInBounds ix (.slice none 0 0)) T)) : ApR w6 w6 b ix cs0 T E sz 0 :=
  ⟨⟨none, 0, [], h, ⟨by simp, .inl ⟨rfl, rfl⟩⟩⟩, Turn.refl _ _⟩
theorem ApR.step {w6 wr w1 w2 : World} {b ix : Nat} {cs0 : Array Value} {T E sz n g c c' : Nat} {p : Option Addr} {cs news : List Value} (ht : Turn (fun k => k = b) w6 wr) (hbw : b < w6.heap.size)
    (hr : wr.heap[b]? = some (.cells (cs0.setIfInBounds ix (.slice p n c)) T)) (ho : wr.ownsRow w6.heap.size E sz (.slice p n c) n cs)
    (hb : Below wr.heap.size wr w1) (hg : w1.grownBy w2 (Value.slice p n c).ownBlock) (hown : w2.ownsRow w6.heap.size E sz (.slice (some ⟨g, 0, none⟩) (n + 1) c') (n + 1) (cs ++ news)) :
    ApR w6 (w2.setCell ⟨b, ix, none⟩ (.slice (some ⟨g, 0, none⟩) (n + 1) c')) b ix cs0 T E sz (n + 1) := by
  have hbr := (Array.getElem?_eq_some_iff.1 hr).1
  have h2 : w2.heap[b]? = some (.cells (cs0.setIfInBounds ix (.slice p n c)) T) := by
    rw [hg.block b (Nat.lt_of_lt_of_le hbr hb.size) (fun e => by have := (World.ownsRow.lt ho _ e.symm).1; omega), hb.block b hbr]; exact hr
  refine ⟨⟨some ⟨g, 0, none⟩, c', cs ++ news, ?_, ?_⟩, ?_⟩
  · have := blk_set h2 ix (.slice (some ⟨g, 0, none⟩) (n + 1) c')
    rwa [Array.setIfInBounds_setIfInBounds] at this
  · refine ⟨hown.1, ?_⟩
    rcases hown.2 with hn | ⟨g', cap, cur, e, hb', hg', rest⟩
    · exact .inl hn
    · exact .inr ⟨g', cap, cur, e, hb', (Below.heap_setCell _ _ _ _ (by show g' ≠ b; omega)).trans hg', rest⟩
  · have t1 : Turn (fun k => (Value.slice p n c).ownBlock = some k) w1 w2 := ⟨hg.os, hg.tape, hg.output, hg.size, fun k hk hn => hg.block k hk (fun e => hn e.symm)⟩
    have t2 : Turn (fun k => k = b ∨ w6.heap.size ≤ k) wr w2 := ((Turn.of_below hb).trans t1).mono (fun k _ e => .inr (World.ownsRow.lt ho _ e).1)
    have t3 := t2.trans (turn_set w2 b ix (.slice (some ⟨g, 0, none⟩) (n + 1) c') (fun k => k = b ∨ w6.heap.size ≤ k) (.inl rfl))
    have t4 : Turn (fun k => k = b ∨ w6.heap.size ≤ k) w6 wr := ht.mono (fun k _ e => .inl e)
    exact (t4.trans t3).mono (fun k hk e => by rcases e with e | e <;> omega)
theorem ApR.mid {w6 wr w1 w2 : World} {b ix : Nat} {cs0 : Array Value} {T E sz n c : Nat} {p : Option Addr} {cs : List Value} (hbw : b < w6.heap.size)
    (hr : wr.heap[b]? = some (.cells (cs0.setIfInBounds ix (.slice p n c)) T)) (ho : wr.ownsRow w6.heap.size E sz (.slice p n c) n cs)
    (hb : Below wr.heap.size wr w1) (hg : w1.grownBy w2 (Value.slice p n c).ownBlock) (i : Nat) : w2.cell? ⟨b, i, none⟩ = (cs0.setIfInBounds ix (.slice p n c))[i]? ∧ w2.frozen? ⟨b, i, none⟩ = false := by
  have hbr := (Array.getElem?_eq_some_iff.1 hr).1
  have h2 : w2.heap[b]? = some (.cells (cs0.setIfInBounds ix (.slice p n c)) T) := by
    rw [hg.block b (Nat.lt_of_lt_of_le hbr hb.size) (fun e => by have := (World.ownsRow.lt ho _ e.symm).1; omega), hb.block b hbr]; exact hr
  exact cells_of h2 i
theorem ownsRow_below {w w' : World} {B E sz n : Nat} {V : Value} {cs : List Value} (h : w.ownsRow B E sz V n cs) (b : Below w.heap.size w w') : w'.ownsRow B E sz V n cs := by
  refine ⟨h.1, ?_⟩
  rcases h.2 with hn | ⟨g', cap, cur, e, hb', hg', rest⟩
  · exact .inl hn
  · exact .inr ⟨g', cap, cur, e, hb', (b.block _ (Array.getElem?_eq_some_iff.1 hg').1).trans hg', rest⟩
theorem results_c1 {P : Program} {fn : Func} {p : Tmp} {ty : TypeId} (h : fn.results = #[.cell p ty]) (tmps : Array Value) (w : World) (g : Nat) (t : TypeId) (cs : Array Value) (fr : Nat × Nat) (d : TypeDesc)
    (hp : tmps.getD p undef = .pointer (some ⟨g, 0, none⟩)) (hg : w.heap[g]? = some (.cells cs t fr))
    (hu : P.underlying ty = some d) (hd : (match d with | .struct _ | .array _ _ => true | _ => false) = true) (hi : (P.info? ty).map (·.size) = some cs.size) :
    (results fn tmps).run P w = .ok (.agg cs) w := by
  have hp' : tmps[p]?.getD undef = .pointer (some ⟨g, 0, none⟩) := by simpa using hp
  simp [results, h, hp', asAddr, run_loadVar_row w g t ty cs fr d hg hu hd hi]
theorem Tryz.size65 : (Tryz.prog.info? 65).map (·.size) = some 3 := by kernel_rfl
theorem Tryz.struct65 : (match Tryz.prog.underlying 65 with | some (.struct _) => true | _ => false) = true := by kernel_rfl
theorem results_al {fn : Func} {p : Tmp} (h : fn.results = #[.cell p 65]) (tmps : Array Value) (w : World) (g : Nat) (cs : Array Value) (hs : cs.size = 3)
    (hp : tmps.getD p undef = .pointer (some ⟨g, 0, none⟩)) (hg : w.heap[g]? = some (.cells cs 65)) :
    (results fn tmps).run Tryz.prog w = .ok (.agg cs) w := by
  have hst := Tryz.struct65
  cases hd : Tryz.prog.underlying 65 with
  | none => rw [hd] at hst; cases hst
  | some d =>
    rw [hd] at hst
    refine results_c1 h tmps w g 65 cs (0, 0) d hp hg hd ?_ (by rw [hs]; exact Tryz.size65)
    cases d <;> first | rfl | cases hst
theorem Tryz.info134 : (Tryz.prog.info? 134).map (fun i => (i.zero, i.size, i.bytes)) = some (some (.agg #[.string ⟨#[]⟩, .string ⟨#[]⟩]), 2, 32) := by kernel_rfl
theorem Tryz.info65 : (Tryz.prog.info? 65).map (fun i => (i.zero, i.size, i.bytes)) = some (some (.agg #[.slice none 0 0, .int .i64 0, .int .i64 0]), 3, 40) := by kernel_rfl
end Go.Proofs.YtcdeikhfmllkdaaGreatDoor
