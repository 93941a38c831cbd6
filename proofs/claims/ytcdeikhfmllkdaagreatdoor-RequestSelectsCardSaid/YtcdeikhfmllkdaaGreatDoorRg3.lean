import Derived.Test.YtcdeikhfmllkdaaGreatDoorRg2
import Derived.Test.YtcdeikhfmllkdaaGreatDoorJd
import Derived.BigQuiet
/- regex: Compile. -/
namespace Go.Proofs.YtcdeikhfmllkdaaGreatDoor
open Go.RowKit
set_option linter.unusedVariables false
set_option linter.unusedSimpArgs false
/-- An automaton in memory. -/
structure RegC (w : World) (g : Nat) (l : List St) (p : Nat) : Prop where
  ex : ∃ V q cs, w.heap[g]? = some (.cells #[V, .int .i64 p] 266) ∧ w.ownsRow 0 264 3 V l.length cs ∧ StsC w q V l cs
theorem RegC.below {w w' : World} {g p : Nat} {l : List St} (h : RegC w g l p) (b : Below w.heap.size w w') : RegC w' g l p := by
  obtain ⟨V, q, cs, h1, h2, h3⟩ := h
  exact ⟨V, q, cs, (b.block _ (Array.getElem?_eq_some_iff.1 h1).1).trans h1, ownsRow_below h2 b, h3.kept (fun g hg _ h2 => ⟨b.block g hg, h2⟩)⟩
def CompPost (w : World) (r : Except Nat (List St × Nat)) (e : Ending) (w' : World) : Prop :=
  Below w.heap.size w w' ∧ match r with
  | .error m => e = .returned (.tuple #[.pointer none, .int .i64 m])
  | .ok x => ∃ g, e = .returned (.tuple #[.pointer (some ⟨g, 0, none⟩), .int .i64 0]) ∧ RegC w' g x.1 x.2
/-- A post, at no panic. -/
def noPanic (K : Exit → Act → World → Prop) : Exit → Act → World → Prop
  | .panic _, _, _ => False
  | e, a, w => K e a w
theorem noPanic_use {K : Exit → Act → World → Prop} {e : Exit} {a : Act} {w : World} (h : noPanic K e a w) : K e a w := by
  cases e <;> first | exact h | exact h.elim
theorem noPanic_intro {K : Exit → Act → World → Prop} {e : Exit} {a : Act} {w : World} (hn : ∀ {x}, e = .panic x → False) (h : K e a w) : noPanic K e a w := by
  cases e <;> first | exact h | exact hn rfl
/-- Where Compile stands with its parser. -/
structure CpAt (w w' : World) (L E q : Nat) (s : Bytes) (V : Value) (l : List St) : Prop where
  pr : PrV w' q V s l
  bL : w'.heap[L]? = some (.cells #[.pointer none] 222)
  bE : w'.heap[E]? = some (.cells #[.int .i64 0] 30)
  bel : Below w.heap.size w w'
  hL : L = w.heap.size
  hE : E = L + 1
  hq : q = L + 2
theorem CpAt.start (w : World) (s : Bytes) : CpAt w (((w.alloc (.cells #[.pointer none] 222)).alloc (.cells #[.int .i64 0] 30)).alloc (.cells #[.string (str s), .slice none 0 0] 258)) w.heap.size (w.heap.size + 1) (w.heap.size + 1 + 1) s (.slice none 0 0) [] := by
  have h1 : (w.alloc (.cells #[.pointer none] 222)).heap[w.heap.size]? = some (.cells #[.pointer none] 222) := heap_alloc_new _ _
  have s1 : (w.alloc (.cells #[.pointer none] 222)).heap.size = w.heap.size + 1 := by simp
  have h2 : ((w.alloc (.cells #[.pointer none] 222)).alloc (.cells #[.int .i64 0] 30)).heap[w.heap.size + 1]? = some (.cells #[.int .i64 0] 30) := by rw [← s1]; exact heap_alloc_new _ _
  have s2 : ((w.alloc (.cells #[.pointer none] 222)).alloc (.cells #[.int .i64 0] 30)).heap.size = w.heap.size + 1 + 1 := by simp
  have h3 : (((w.alloc (.cells #[.pointer none] 222)).alloc (.cells #[.int .i64 0] 30)).alloc (.cells #[.string (str s), .slice none 0 0] 258)).heap[w.heap.size + 1 + 1]? = some (.cells #[.string (str s), .slice none 0 0] 258) := by rw [← s2]; exact heap_alloc_new _ _
  refine ⟨⟨h3, [], World.ownsRow_nil _ _ _ _, .nil⟩, ?_, ?_, (((Below.refl _ _).alloc (Nat.le_refl _) _).alloc (by simp) _).alloc (by simp; omega) _, rfl, rfl, rfl⟩
  · rw [heap_alloc_old _ _ (by omega), heap_alloc_old _ _ (by omega)]; exact h1
  · rw [heap_alloc_old _ _ (by omega)]; exact h2
theorem CpAt.below {w w1 w2 : World} {L E q : Nat} {s : Bytes} {V : Value} {l : List St} (A : CpAt w w1 L E q s V l) (b : Below w1.heap.size w1 w2) : CpAt w w2 L E q s V l := by
  have := A.pr.lt
  have := A.hE
  have := A.hq
  exact ⟨A.pr.below b, (b.block _ (by omega)).trans A.bL, (b.block _ (by omega)).trans A.bE, A.bel.trans (b.mono (by have := A.hL; omega)), A.hL, A.hE, A.hq⟩
theorem CpAt.post {w w1 w2 : World} {L E q : Nat} {s s2 : Bytes} {V : Value} {l l2 : List St} (A : CpAt w w1 L E q s V l) (h : PrPost w1 w2 q V s2 l2) : ∃ V2, CpAt w w2 L E q s2 V2 l2 := by
  have := A.pr.lt
  have := A.hE
  have := A.hq
  have := A.hL
  obtain ⟨⟨V2, p2, -⟩, b2⟩ := h
  exact ⟨V2, p2, (b2.block _ (by omega)).trans A.bL, (b2.block _ (by omega)).trans A.bE, A.bel.trans (b2.mono (by omega)), A.hL, A.hE, A.hq⟩
/-- Where it has given up. -/
structure CpBad (w w' : World) (L E : Nat) : Prop where
  bL : w'.heap[L]? = some (.cells #[.pointer none] 222)
  bE : w'.heap[E]? = some (.cells #[.int .i64 0] 30)
  bel : Below w.heap.size w w'
  hL : L = w.heap.size
  hE : E = L + 1
theorem CpAt.bad {w w1 w2 : World} {L E q : Nat} {s : Bytes} {V : Value} {l : List St} (A : CpAt w w1 L E q s V l) (b2 : Below q w1 w2) : CpBad w w2 L E := by
  have := A.pr.lt
  have := A.hE
  have := A.hq
  have := A.hL
  exact ⟨(b2.block _ (by omega)).trans A.bL, (b2.block _ (by omega)).trans A.bE, A.bel.trans (b2.mono (by omega)), A.hL, A.hE⟩
theorem CpAt.mid {w w5 w5' w6 : World} {L E q b : Nat} {s : Bytes} {V : Value} {l : List St} {cs5 : Array Value} (A : CpAt w w5 L E q s V l) (hb : Below w5.heap.size w5 w5') (hg : w5'.grownBy w6 V.ownBlock) (ho : ∀ g, V.ownBlock = some g → g < b) (h5 : w5.heap[b]? = some (.cells cs5 260)) :
    w6.heap[L]? = some (.cells #[.pointer none] 222) ∧ w6.heap[E]? = some (.cells #[.int .i64 0] 30) ∧ w6.heap[b]? = some (.cells cs5 260) := by
  have h1 := A.pr.lt
  have h2 := A.hE
  have h3 := A.hq
  have hk : ∀ k, k < w5.heap.size → V.ownBlock ≠ some k → w6.heap[k]? = w5.heap[k]? := fun k h1 h2 => by
    rw [hg.block k (Nat.lt_of_lt_of_le h1 hb.size) (fun e => h2 e.symm), hb.block k h1]
  have hn : ∀ k, k ≤ q → V.ownBlock ≠ some k := fun k hk e => by have := (A.pr.own_lt e).1; omega
  exact ⟨(hk L (by omega) (hn L (by omega))).trans A.bL, (hk E (by omega) (hn E (by omega))).trans A.bE, (hk b (Array.getElem?_eq_some_iff.1 h5).1 (fun e => Nat.lt_irrefl _ (ho _ e))).trans h5⟩
theorem SetC.skip {w w' : World} {q b t : Nat} {V : Value} {o : Option (List Bool)} {p : Value} {cs : Array Value} (h : SetC w q V o p) (ht : t ≠ 325) (hb : w.heap[b]? = some (.cells cs t)) (ho : ∀ k, k ≠ b → w'.heap[k]? = w.heap[k]?) : SetC w' q V o p := by
  cases o with
  | none => exact h
  | some bs =>
    obtain ⟨g, e, h1, h2, h3, h4⟩ := h
    refine ⟨g, e, h1, h2, h3, (ho g ?_).trans h4⟩
    rintro rfl
    rw [hb] at h4
    simp only [Option.some.injEq, Obj.cells.injEq] at h4
    exact ht h4.2.1
theorem StsC.skip {w w' : World} {q b t : Nat} {V : Value} {l : List St} {vs : List Value} {cs : Array Value} (h : StsC w q V l vs) (ht : t ≠ 325) (hb : w.heap[b]? = some (.cells cs t)) (ho : ∀ k, k ≠ b → w'.heap[k]? = w.heap[k]?) : StsC w' q V l vs := by
  induction h with
  | nil => exact .nil
  | snoc h hp ih => exact .snoc ih (hp.skip ht hb ho)
theorem ownsRow_kept {w w' : World} {B E sz n : Nat} {V : Value} {cs : List Value} (h : w.ownsRow B E sz V n cs) (ho : ∀ k, V.ownBlock = some k → w'.heap[k]? = w.heap[k]?) : w'.ownsRow B E sz V n cs := by
  refine ⟨h.1, ?_⟩
  rcases h.2 with hn | ⟨g', cap, cur, e, hb', hg', rest⟩
  · exact .inl hn
  · exact .inr ⟨g', cap, cur, e, hb', (ho g' (by rw [e]; rfl)).trans hg', rest⟩
theorem ownsRow_zero {w : World} {B E sz n : Nat} {V : Value} {cs : List Value} (h : w.ownsRow B E sz V n cs) : w.ownsRow 0 E sz V n cs := by
  refine ⟨h.1, ?_⟩
  rcases h.2 with hn | ⟨g', cap, cur, e, hb', rest⟩
  · exact .inl hn
  · exact .inr ⟨g', cap, cur, e, Nat.zero_le _, rest⟩
/-- What stands behind the stores. -/
theorem CpAt.fin {w w5 w5' w6 : World} {L E q g cap p2 p1 : Nat} {s : Bytes} {V : Value} {l : List St} {cs : List Value} (A : CpAt w w5 L E q s V l) (ho : w5.ownsRow (q + 1) 264 3 V l.length cs) (hs : StsC w5 q V l cs) (hb : Below w5.heap.size w5 w5') (hg : w5'.grownBy w6 V.ownBlock)
    (h : w6.ownsRow (q + 1) 264 3 (.slice (some ⟨g, 0, none⟩) (l.length + 1) cap) (l.length + 1) (cs ++ stCells (.pointer none) ⟨none, -1, p2⟩)) (hat : V.ownBlock = some g ∨ g = w5'.heap.size)
    {w9 : World} (h9 : w9 = ((w6.setCell ⟨L, 0, none⟩ (.pointer (some ⟨w6.heap.size, 0, none⟩))).setCell ⟨E, 0, none⟩ (.int .i64 0)).alloc (.cells #[.slice (some ⟨g, 0, none⟩) (l.length + 1) cap, .int .i64 p1] 266)) :
    w9.heap[L]? = some (.cells #[.pointer (some ⟨w6.heap.size, 0, none⟩)] 222) ∧ w9.heap[E]? = some (.cells #[.int .i64 0] 30) ∧ Below w.heap.size w w9 ∧ RegC w9 w6.heap.size (l ++ [⟨none, -1, p2⟩]) p1 := by
  have z1 := A.pr.lt
  have z2 := A.hE
  have z3 := A.hq
  have z4 := A.hL
  have z5 := hb.size
  have z6 := hg.size
  have hk : ∀ k, k < w5.heap.size → V.ownBlock ≠ some k → w6.heap[k]? = w5.heap[k]? := fun k h1 h2 => by
    rw [hg.block k (Nat.lt_of_lt_of_le h1 hb.size) (fun e => h2 e.symm), hb.block k h1]
  have hn : ∀ k, k ≤ q → V.ownBlock ≠ some k := fun k hk e => by have := (A.pr.own_lt e).1; omega
  have rL := (hk L (by omega) (hn L (by omega))).trans A.bL
  have rE := (hk E (by omega) (hn E (by omega))).trans A.bE
  have hs6 : StsC w6 q (.slice (some ⟨g, 0, none⟩) (l.length + 1) cap) (l ++ [⟨none, -1, p2⟩]) (cs ++ stCells (.pointer none) ⟨none, -1, p2⟩) := by
    refine .snoc (hs.kept (fun k h1 h2 h3 => ⟨hk k h1 h3, fun e => ?_⟩)) rfl
    simp only [Value.ownBlock, Option.some.injEq] at e
    subst e
    rcases hat with h | h
    · exact h3 h
    · omega
  have hgl := World.ownsRow.lt h g rfl
  obtain ⟨w7, hw7⟩ : ∃ w7, w6.setCell ⟨L, 0, none⟩ (.pointer (some ⟨w6.heap.size, 0, none⟩)) = w7 := ⟨_, rfl⟩
  rw [hw7] at h9
  have k7 : ∀ k, k ≠ L → w7.heap[k]? = w6.heap[k]? := fun k hk => hw7 ▸ Below.heap_setCell _ _ _ _ hk
  have rL7 : w7.heap[L]? = some (.cells #[.pointer (some ⟨w6.heap.size, 0, none⟩)] 222) := by rw [← hw7]; simpa using blk_set rL 0 (.pointer (some ⟨w6.heap.size, 0, none⟩))
  have s7 : w7.heap.size = w6.heap.size := by rw [← hw7]; simp
  obtain ⟨w8, hw8⟩ : ∃ w8, w7.setCell ⟨E, 0, none⟩ (.int .i64 0) = w8 := ⟨_, rfl⟩
  rw [hw8] at h9
  have k8 : ∀ k, k ≠ E → w8.heap[k]? = w7.heap[k]? := fun k hk => hw8 ▸ Below.heap_setCell _ _ _ _ hk
  have rE7 := (k7 E (by omega)).trans rE
  have rE8 : w8.heap[E]? = some (.cells #[.int .i64 0] 30) := by rw [← hw8]; simpa using blk_set rE7 0 (.int .i64 0)
  have rL8 := (k8 L (by omega)).trans rL7
  have s8 : w8.heap.size = w6.heap.size := by rw [← hw8, ← s7]; simp
  have b9 : Below w8.heap.size w8 w9 := h9 ▸ (Below.refl _ _).alloc (Nat.le_refl _) _
  have rg : w9.heap[w6.heap.size]? = some (.cells #[.slice (some ⟨g, 0, none⟩) (l.length + 1) cap, .int .i64 p1] 266) := by rw [h9, ← s8]; exact heap_alloc_new _ _
  refine ⟨(b9.block L (by omega)).trans rL8, (b9.block E (by omega)).trans rE8, ?_, ?_⟩
  · have b56 : Below L w5 w6 := (hb.mono (by omega)).trans ⟨hg.os, hg.tape, hg.output, hg.size, fun k hk => hg.block k (by omega) (fun e => hn k (by omega) e.symm)⟩
    have b67 : Below L w6 w7 := hw7 ▸ (Below.refl L w6).setCell (p := ⟨L, 0, none⟩) (Nat.le_refl _) _
    have b68 : Below L w6 w8 := hw8 ▸ b67.setCell (p := ⟨E, 0, none⟩) (by show L ≤ E; omega) _
    exact A.bel.trans (z4 ▸ (b56.trans (b68.trans (b9.mono (by omega)))))
  · have ho8 := ownsRow_kept (ownsRow_zero h) (w' := w8) (fun k e => by
      simp only [Value.ownBlock, Option.some.injEq] at e
      subst e
      exact (k8 g (by omega)).trans (k7 g (by omega)))
    have hs8 := (hs6.skip (by decide) rL k7).skip (by decide) rE7 k8
    refine ⟨_, q, _, rg, ?_, hs8.kept (fun k h1 _ h3 => ⟨b9.block k h1, h3⟩)⟩
    rw [List.length_append]
    exact ownsRow_below ho8 b9
set_option maxRecDepth 100000 in
/-- The deferred catch, behind a pattern that is none. -/
theorem cp_fault {w : World} {L E : Nat} {v x : Value} {tl te : TypeId} (hL : w.heap[L]? = some (.cells #[v] tl)) (hE : w.heap[E]? = some (.cells #[x] te)) (hne : L ≠ E) :
    CallsD Tryz.prog 201 #[.pointer (some ⟨L, 0, none⟩), .pointer (some ⟨E, 0, none⟩)] (.panicking [{ v := .iface 253 (.agg #[]), recovered := false }]) w fun en u' w' =>
      en = .returned (.tuple #[]) ∧ u' = .panicking [{ v := .iface 253 (.agg #[]), recovered := true }] ∧ w'.heap[L]? = some (.cells #[.pointer none] tl) ∧ w'.heap[E]? = some (.cells #[.int .i64 9] te) ∧ Turn (fun k => k = L ∨ k = E) w w' := by
  refine callsD_of_wpS Tryz.func201 rfl fun c₀ cs hu => ?_
  have hta : ∀ w, (Instr.typeAssert (.iface 253 (.agg #[])) 20 253 true).run Tryz.prog w = .ok (.tuple #[.agg #[], .bool true]) w := fun w => by kernel_rfl
  have he : #[Value.pointer (some ⟨L, 0, none⟩), .pointer (some ⟨E, 0, none⟩)] ++ Array.replicate (Tryz.f201.ntmps - #[Value.pointer (some ⟨L, 0, none⟩), .pointer (some ⟨E, 0, none⟩)].size) undef = #[.pointer (some ⟨L, 0, none⟩), .pointer (some ⟨E, 0, none⟩), undef, undef, undef, undef, undef, undef, undef, undef, undef, undef, undef, undef, undef, undef] := rfl
  rw [he]
  apply wpS_seq
  apply wpS_region
  simp [wpOpsS, go_sem, recoverD, hu, Exit.thenS]
  refine wpS_of_wp ?_
  have c0 := (cells_of hL 0).1
  have f0 := (cells_of hL 0).2
  have c1 := (cells_of hE 0).1
  have f1 := (cells_of hE 0).2
  have nL := World.new_ne w _ c0
  have nE := World.new_ne w _ c1
  have lL : L < w.heap.size := (Array.getElem?_eq_some_iff.1 hL).1
  have lE : E < w.heap.size := (Array.getElem?_eq_some_iff.1 hE).1
  have HL := Lib.hid hL
  have HE := Lib.hid hE
  clear hL hE he
  go_wp2_with fail
  have e1 : (w.setCell ⟨L, 0, none⟩ (.pointer none)).heap[L]? = some (.cells #[.pointer none] tl) := by simpa using blk_set HL.out 0 (.pointer none)
  have e2 : (w.setCell ⟨L, 0, none⟩ (.pointer none)).heap[E]? = some (.cells #[x] te) := (Below.heap_setCell _ _ _ _ (by exact fun e => hne e.symm)).trans HE.out
  have e3 : ((w.setCell ⟨L, 0, none⟩ (.pointer none)).setCell ⟨E, 0, none⟩ (.int .i64 9)).heap[E]? = some (.cells #[.int .i64 9] te) := by simpa using blk_set e2 0 (.int .i64 9)
  have e4 : ((w.setCell ⟨L, 0, none⟩ (.pointer none)).setCell ⟨E, 0, none⟩ (.int .i64 9)).heap[L]? = some (.cells #[.pointer none] tl) := (Below.heap_setCell _ _ _ _ (by exact hne)).trans e1
  have hs : ((w.setCell ⟨L, 0, none⟩ (.pointer none)).setCell ⟨E, 0, none⟩ (.int .i64 9)).heap.size = w.heap.size := by simp [World.setCell]
  refine ⟨rfl, _, rfl, .tuple #[], by simp [results, Tryz.results201], rfl, rfl, ?_, ?_, ?_⟩
  · exact (heap_alloc_old _ _ (by omega)).trans e4
  · exact (heap_alloc_old _ _ (by omega)).trans e3
  · exact ((turn_set w L 0 (.pointer none) (fun k => k = L ∨ k = E) (.inl rfl)).trans (turn_set _ E 0 (.int .i64 9) _ (.inr rfl))).trans (Turn.of_below ((Below.refl _ _).alloc (Nat.le_refl _) _))
set_option maxRecDepth 100000 in
theorem cp_idle {w : World} {L E : Nat} :
    CallsD Tryz.prog 201 #[.pointer (some ⟨L, 0, none⟩), .pointer (some ⟨E, 0, none⟩)] .returning w fun en u' w' =>
      en = .returned (.tuple #[]) ∧ u' = .returning ∧ w = w' := by
  refine callsD_of_wpS Tryz.func201 rfl fun c₀ cs hu => ?_
  have he : #[Value.pointer (some ⟨L, 0, none⟩), .pointer (some ⟨E, 0, none⟩)] ++ Array.replicate (Tryz.f201.ntmps - #[Value.pointer (some ⟨L, 0, none⟩), .pointer (some ⟨E, 0, none⟩)].size) undef = #[.pointer (some ⟨L, 0, none⟩), .pointer (some ⟨E, 0, none⟩), undef, undef, undef, undef, undef, undef, undef, undef, undef, undef, undef, undef, undef, undef] := rfl
  rw [he]
  apply wpS_seq
  apply wpS_region
  simp [wpOpsS, go_sem, recoverD, hu, Exit.thenS]
  refine wpS_of_wp ?_
  go_wp2
  refine ⟨rfl, .returning, ?_, .tuple #[], by simp [results, Tryz.results201], rfl, rfl, rfl⟩
  cases c₀
  simp_all
/-- The door, where it was given up. -/
theorem cp_door {w w2 : World} {L E : Nat} {r : Except Nat (List St × Nat)} (hr : r = .error 9) (h : CpBad w w2 L E)
    (a : Act) (h2 : a.tmps[2]? = some (.pointer (some ⟨L, 0, none⟩))) (h3 : a.tmps[3]? = some (.pointer (some ⟨E, 0, none⟩)))
    (hd : a.defers = [{ target := Target.fn (Fn.func 201) #[.pointer (some ⟨L, 0, none⟩), .pointer (some ⟨E, 0, none⟩)], args := #[] }]) :
    bodyPostD Tryz.prog Tryz.f165 (CompPost w r) (Exit.panic [{ v := .iface 253 (.agg #[]), recovered := false }]) a w2 := by
  subst hr
  obtain ⟨tmps, defers⟩ := a
  simp only at hd h2 h3
  subst hd
  have := h.hL
  have := h.hE
  refine leaves_cons (f := 201) (args := #[.pointer (some ⟨L, 0, none⟩), .pointer (some ⟨E, 0, none⟩)]) (by simp) (by simp [go_sem]) ?_
  refine (cp_fault h.bL h.bE (by omega)).mono ?_
  rintro e u' w3 ⟨rfl, rfl, kL, kE, t⟩
  have c0 := (cells_of kL 0).1
  have c1 := (cells_of kE 0).1
  have hbel : Below w.heap.size w w3 := h.bel.trans ⟨t.os, t.tape, t.output, t.size, fun k hk => t.block k (by have := h.bel.size; omega) (by rintro (h | h) <;> omega)⟩
  have hres : (results Tryz.f165 tmps).run Tryz.prog w3 = .ok (.tuple #[.pointer none, .int .i64 9]) w3 := by
    simp [results, Tryz.results165, go_sem, h2, h3, c0, c1]
  exact ⟨_, hres, hbel, rfl⟩
/-- The door, where there is an automaton. -/
theorem cp_ret {w w6 : World} {L E g : Nat} {r : Except Nat (List St × Nat)} {x : List St × Nat} (hr : r = .ok x) (hL : w6.heap[L]? = some (.cells #[.pointer (some ⟨g, 0, none⟩)] 222)) (hE : w6.heap[E]? = some (.cells #[.int .i64 0] 30))
    (hbel : Below w.heap.size w w6) (hreg : RegC w6 g x.1 x.2)
    (a : Act) (h2 : a.tmps[2]? = some (.pointer (some ⟨L, 0, none⟩))) (h3 : a.tmps[3]? = some (.pointer (some ⟨E, 0, none⟩)))
    (hd : a.defers = [{ target := Target.fn (Fn.func 201) #[.pointer (some ⟨L, 0, none⟩), .pointer (some ⟨E, 0, none⟩)], args := #[] }]) :
    bodyPostD Tryz.prog Tryz.f165 (CompPost w r) Exit.ret a w6 := by
  subst hr
  have c0 := (cells_of hL 0).1
  have c1 := (cells_of hE 0).1
  obtain ⟨tmps, defers⟩ := a
  simp only at hd h2 h3
  subst hd
  refine leaves_cons (f := 201) (args := #[.pointer (some ⟨L, 0, none⟩), .pointer (some ⟨E, 0, none⟩)]) (by simp) (by simp [go_sem]) ?_
  refine cp_idle.mono ?_
  rintro e u' w3 ⟨rfl, rfl, rfl⟩
  have hres : (results Tryz.f165 tmps).run Tryz.prog w6 = .ok (.tuple #[.pointer (some ⟨g, 0, none⟩), .int .i64 0]) w6 := by
    simp [results, Tryz.results165, go_sem, h2, h3, c0, c1]
  exact ⟨_, hres, hbel, g, rfl, hreg⟩
set_option maxRecDepth 100000 in
set_option maxHeartbeats 2000000 in
theorem compile_long {w : World} {s : Bytes} (hl : 64 < s.length) (hm : s.length ≤ maxLen) : Calls Tryz.prog 165 #[.string (str s)] w (CompPost w (.error 5)) := by
  unfold maxLen at hm
  have hz := str_size s
  have hz1 : decide ((64 : Int) < ((str s).size : Int)) = true := by rw [hz]; simp; omega
  obtain ⟨S, hS⟩ : ∃ S, str s = S := ⟨_, rfl⟩
  rw [hS] at hz hz1 ⊢
  clear hS hz
  go_enter_defers Tryz.func165, Tryz.ntmps165
  go_wp2
  have e0 : ((w.alloc (.cells #[.pointer none] 222)).alloc (.cells #[.int .i64 5] 30)).cell? ⟨w.heap.size, 0, none⟩ = some (.pointer none) := by go_simp
  refine ⟨.tuple #[.pointer none, .int .i64 5], ?_, ((Below.refl _ _).alloc (Nat.le_refl _) _).alloc (by simp) _, rfl⟩
  simp [results, Tryz.results165, go_sem]
set_option maxRecDepth 100000 in
set_option maxHeartbeats 4000000 in
theorem compile_short {w : World} {s : Bytes} (hl : s.length ≤ 64) {r : Except Nat (List St × Nat)} (hr : compileM s = r) : Calls Tryz.prog 165 #[.string (str s)] w (CompPost w r) := by
  have hz := str_size s
  have hz1 : decide ((64 : Int) < ((str s).size : Int)) = false := by rw [hz]; simp; omega
  have HRR : Hid ((match patN (s.length + 1) s [] with
    | none => .error 9
    | some r => if r.2.1 = [] then .ok (r.2.2 ++ [⟨none, -1, r.1.2⟩], r.1.1) else .error 9 : Except Nat (List St × Nat)) = r) := by
    rw [← hr]; unfold compileM; rw [if_neg (by omega)]; exact Lib.hid rfl
  clear hr hz
  have hmf : ∀ (fn : Fn) (first cap : Array Value) (w : World), (Instr.makeFunc fn first cap).run Tryz.prog w = .ok (.func fn first cap) w := fun _ _ _ _ => rfl
  have hA := CpAt.start w s
  go_enter_defers Tryz.func165, Tryz.ntmps165
  go_upto_region 5 with fail
  obtain ⟨w3, hw3⟩ : ∃ w3, ((w.alloc (.cells #[.pointer none] 222)).alloc (.cells #[.int .i64 0] 30)).alloc (.cells #[.string (str s), .slice none 0 0] 258) = w3 := ⟨_, rfl⟩
  rw [hw3] at hA ⊢
  clear hw3
  generalize w.heap.size + 1 + 1 = q at hA ⊢
  generalize w.heap.size + 1 = E at hA ⊢
  generalize w.heap.size = L at hA ⊢
  have HA := Lib.hid hA
  have HP := Lib.hid (patN_hyp (s.length + 1) 300 (by omega) w3 q _ s [] (by omega) (by simp; omega) hA.pr)
  clear hA
  cases hp : patN (s.length + 1) s [] with
  | none =>
    have hR := HRR.out
    rw [hp] at hR HP
    have hR : .error 9 = r := hR
    have HP : Hid (Calls Tryz.prog 202 #[.pointer (some ⟨q, 0, none⟩)] w3 fun e w' => e = badE ∧ Below q w3 w') := Lib.hid HP.out
    unfold badE at HP
    go_wp2_with (first | (go_at_call 202; refine HP.out.mono ?_; rintro e w4 ⟨rfl, hb4⟩))
    exact cp_door hR.symm (HA.out.bad hb4) _ rfl rfl rfl
  | some x =>
    have hR := HRR.out
    rw [hp] at hR HP
    have hn := patN_nice _ _ _ _ hp
    obtain ⟨⟨p1, p2⟩, s1, l1⟩ := x
    have hR : (if s1 = [] then .ok (l1 ++ [⟨none, -1, p2⟩], p1) else .error 9) = r := hR
    have HP : Hid (Calls Tryz.prog 202 #[.pointer (some ⟨q, 0, none⟩)] w3 fun e w' => e = .returned (.agg #[.int .i64 p1, .int .i64 p2]) ∧ PrPost w3 w' q (.slice none 0 0) s1 l1) := Lib.hid HP.out
    have hfw : l1.length ≤ 257 := by have := hn.few; simp at this; omega
    have HR := Lib.hid hR
    clear hp hn hR HRR
    go_upto_region 6 with (first | (go_at_call 202; refine HP.out.mono ?_; rintro e w4 ⟨rfl, hb4⟩; have H4 := Lib.hid (HA.out.post hb4); clear hb4))
    obtain ⟨V4, A4⟩ := H4.out
    have hb5 := heap_alloc_new w4 (.cells #[.int .i64 p1, .int .i64 p2] 260)
    have A5 := A4.below ((Below.refl _ w4).alloc (Nat.le_refl _) (.cells #[.int .i64 p1, .int .i64 p2] 260))
    have hs5 : w4.heap.size < (w4.alloc (.cells #[.int .i64 p1, .int .i64 p2] 260)).heap.size := by simp
    have hq5 := A4.pr.lt
    have ho5 : ∀ g, V4.ownBlock = some g → g < w4.heap.size := fun g hg => (A4.pr.own_lt hg).2
    clear H4 A4 HP HA
    generalize w4.heap.size = b5 at hb5 hs5 hq5 ho5 ⊢
    generalize w4.alloc _ = w5 at hb5 A5 hs5 ⊢
    have H5 := Lib.hid (And.intro A5 hb5)
    have c0 := A5.pr.c0
    have c1 := A5.pr.c1
    have f1 := A5.pr.f 1
    have d0 : w5.cell? ⟨b5, 0, none⟩ = some (.int .i64 p1) := (cells_of hb5 0).1
    have d1 : w5.cell? ⟨b5, 1, none⟩ = some (.int .i64 p2) := (cells_of hb5 1).1
    clear A5 hb5
    cases s1 with
    | cons ch t =>
      have hE : (str (ch :: t)).toList.isEmpty = false := by rw [str_empty]; rfl
      have hR := HR.out
      have hR : .error 9 = r := hR
      go_wp2_with fail
      exact cp_door hR.symm (H5.out.1.bad (Below.refl _ _)) _ rfl rfl rfl
    | nil =>
      have hE : (str []).toList.isEmpty = true := by rw [str_empty]; rfl
      have hR := HR.out
      have hR : .ok (l1 ++ [⟨none, -1, p2⟩], p1) = r := hR
      go_upto_region 8 with fail
      obtain ⟨i0, hi0, iz0, iz1, iz2⟩ := info_parts Tryz.info264
      obtain ⟨cs, ho, hs⟩ := H5.out.1.pr.own
      obtain ⟨pV, cV, rfl⟩ := H5.out.1.pr.form
      have HO := Lib.hid (And.intro ho (And.intro hs ho5))
      have hne5 : b5 ≠ w5.heap.size := by omega
      have hneq : q ≠ w5.heap.size := by omega
      obtain ⟨hLE, hEq⟩ : L < E ∧ E < q := by have := H5.out.1.hq; have := H5.out.1.hE; omega
      have hlq : q < w5.heap.size := by omega
      have HB := Lib.hid (Below.drew ((Below.refl _ w5).alloc (Nat.le_refl _) (.cells #[.pointer none, .int .i64 (-1), .int .i64 p2] 264)))
      clear ho hs ho5 hE
      refine Code.wp_mono (Q := noPanic (Exit.then _ (bodyPostD Tryz.prog Tryz.f165 (CompPost w r)))) (fun e a w h => noPanic_use h) ?_
      go_region_law (refine step_append_lies _ (by rfl) _ _ _ (by rfl) (q + 1) 264 i0 _ 3 24 Tryz.underlying256 hi0 iz0 iz1 iz2 rfl (by omega) (.slice pV l1.length cV) l1.length cs (by rfl) (ownsRow_below HO.out.1 HB.out) ⟨w5.heap.size, 0, none⟩ 1 1 [.pointer none, .int .i64 (-1), .int .i64 p2] (by rfl) (by rfl) (World.news_of_block (cs := #[.pointer none, .int .i64 (-1), .int .i64 p2]) (t := 264) (fr := (0, 0)) (heap_alloc_new _ _)) (by simp [Value.oneCell']) (by omega) (by unfold maxLen; omega) (by omega) (by simp; omega) (w5.heap.size + 1) (by simp) ?_; intro g6 cap6 w6 hown6 hgrow6 hat6 hlt6; have H6 := Lib.hid (And.intro hown6 (And.intro hgrow6 hat6)); obtain ⟨rL, rE, rb⟩ := H5.out.1.mid HB.out hgrow6 HO.out.2.2 H5.out.2; have m0 : w6.cell? ⟨L, 0, none⟩ = some (.pointer none) := (cells_of rL 0).1; have m1 := (cells_of rL 0).2; have m2 : w6.cell? ⟨E, 0, none⟩ = some (.int .i64 0) := (cells_of rE 0).1; have m3 := (cells_of rE 0).2; have m4 : w6.cell? ⟨b5, 0, none⟩ = some (.int .i64 p1) := (cells_of rb 0).1; have m5 : L ≠ w6.heap.size := Nat.ne_of_lt (Array.getElem?_eq_some_iff.1 rL).1; have m6 : E ≠ w6.heap.size := Nat.ne_of_lt (Array.getElem?_eq_some_iff.1 rE).1; have m7 : b5 ≠ w6.heap.size := Nat.ne_of_lt (Array.getElem?_eq_some_iff.1 rb).1; have m8 := (Array.getElem?_eq_some_iff.1 rL).1; have m9 := (Array.getElem?_eq_some_iff.1 rE).1; have m10 := (Array.getElem?_eq_some_iff.1 rb).1; have m11 : L ≠ E := Nat.ne_of_lt hLE; have m12 := m11.symm; clear hown6 hgrow6 hat6 hlt6 rL rE rb)
      all_goals
        have hF := H5.out.1.fin HO.out.1 HO.out.2.1 HB.out H6.out.2.1 H6.out.1 (by simpa using H6.out.2.2) (p1 := p1) rfl
        refine noPanic_intro (fun h => nomatch h) ?_
        generalize World.alloc _ _ = w9 at hF ⊢
        generalize w6.heap.size = g9 at hF ⊢
        have HF := Lib.hid hF
        clear hF m0 m1 m2 m3 m4 m5 m6 m7 m8 m9 m10 m11 m12 H6
        go_wp2_with fail
        exact cp_ret hR.symm HF.out.1 HF.out.2.1 HF.out.2.2.1 HF.out.2.2.2 _ rfl rfl rfl
theorem compile_any {w : World} {s : Bytes} (hm : s.length ≤ maxLen) : Calls Tryz.prog 165 #[.string (str s)] w (CompPost w (compileM s)) := by
  by_cases hl : 64 < s.length
  · have : compileM s = .error 5 := by unfold compileM; rw [if_pos hl]
    rw [this]
    exact compile_long hl hm
  · exact compile_short (by omega) rfl
end Go.Proofs.YtcdeikhfmllkdaaGreatDoor

/- regex: reach. -/
namespace Go.Proofs.YtcdeikhfmllkdaaGreatDoor
open Go.RowKit
set_option linter.unusedVariables false
set_option linter.unusedSimpArgs false
theorem StsC.at {w : World} {q : Nat} {V : Value} {l : List St} {cs : List Value} (h : StsC w q V l cs) {i : Nat} {st : St} (hi : l[i]? = some st) :
    ∃ p, SetC w q V st.set p ∧ cs[i * 3]? = some p ∧ cs[i * 3 + 1]? = some (.int .i64 st.next) ∧ cs[i * 3 + 2]? = some (.int .i64 st.other) := by
  induction h with
  | nil => simp at hi
  | @snoc l cs st' p h hp ih =>
    have hl := h.len
    by_cases he : i < l.length
    · rw [List.getElem?_append_left he] at hi
      obtain ⟨p', h1, h2, h3, h4⟩ := ih hi
      exact ⟨p', h1, by rw [List.getElem?_append_left (by omega)]; exact h2, by rw [List.getElem?_append_left (by omega)]; exact h3, by rw [List.getElem?_append_left (by omega)]; exact h4⟩
    · have hlt := (List.getElem?_eq_some_iff.1 hi).1
      rw [List.length_append, List.length_singleton] at hlt
      obtain rfl : i = l.length := by omega
      rw [List.getElem?_append_right (by omega), Nat.sub_self] at hi
      simp only [List.getElem?_cons_zero, Option.some.injEq] at hi
      subst hi
      refine ⟨p, hp, ?_, ?_, ?_⟩
      · rw [List.getElem?_append_right (by omega), show l.length * 3 - cs.length = 0 by omega]; rfl
      · rw [List.getElem?_append_right (by omega), show l.length * 3 + 1 - cs.length = 1 by omega]; rfl
      · rw [List.getElem?_append_right (by omega), show l.length * 3 + 2 - cs.length = 2 by omega]; rfl
/-- A state of an automaton, in memory. -/
structure RegAt (w : World) (g p n sb cap : Nat) (pv : Value) (i : Nat) (st : St) : Prop where
  c0 : w.cell? ⟨g, 0, none⟩ = some (.slice (some ⟨sb, 0, none⟩) n cap)
  c1 : w.cell? ⟨g, 1, none⟩ = some (.int .i64 p)
  s0 : w.cell? ⟨sb, i * 3, none⟩ = some pv
  s1 : w.cell? ⟨sb, i * 3 + 1, none⟩ = some (.int .i64 st.next)
  s2 : w.cell? ⟨sb, i * 3 + 2, none⟩ = some (.int .i64 st.other)
  set : match st.set with
    | none => pv = .pointer none
    | some bs => ∃ sg, pv = .pointer (some ⟨sg, 0, none⟩) ∧ bs.length = 256 ∧ w.heap[sg]? = some (.cells (boolsA bs) 325)
theorem RegC.at {w : World} {g p i : Nat} {l : List St} {st : St} (h : RegC w g l p) (hi : l[i]? = some st) : ∃ sb cap pv, RegAt w g p l.length sb cap pv i st := by
  obtain ⟨V, q, cs, h1, h2, h3⟩ := h
  obtain ⟨pv, e, e0, e1, e2⟩ := h3.at hi
  rcases h2.2 with ⟨_, hn⟩ | ⟨sb, cap, cur, rfl, hb', hg', hc, hm, hsz, ht⟩
  · have := (List.getElem?_eq_some_iff.1 hi).1; omega
  · have hcell : ∀ j v, cs[j]? = some v → w.cell? ⟨sb, j, none⟩ = some v := fun j v hj => by
      rw [(cells_of hg' j).1, ← Array.getElem?_toList]
      rw [← ht, List.getElem?_take] at hj
      split at hj
      · exact hj
      · cases hj
    refine ⟨sb, cap, pv, (cells_of h1 0).1, (cells_of h1 1).1, hcell _ _ e0, hcell _ _ e1, hcell _ _ e2, ?_⟩
    cases hs : st.set with
    | none => rw [hs] at e; exact e
    | some bs =>
      rw [hs] at e
      obtain ⟨sg, e, -, -, hl, hr⟩ := e
      exact ⟨sg, e, hl, hr⟩
/-- A slice of bools in a block of its own. -/
def BsS (w : World) (k : Nat) (bs : List Bool) : Prop := w.heap[k]? = some (.cells (boolsA bs) 4)
theorem BsS.cell {w : World} {k : Nat} {bs : List Bool} (h : BsS w k bs) {i : Nat} {b : Bool} (hi : bs[i]? = some b) : w.cell? ⟨k, i, none⟩ = some (.bool b) ∧ w.frozen? ⟨k, i, none⟩ = false := by
  refine ⟨?_, (cells_of h i).2⟩
  rw [(cells_of h i).1, boolsA_get, hi]; rfl
theorem BsS.set {w : World} {k : Nat} {bs : List Bool} (h : BsS w k bs) (i : Nat) (b : Bool) : BsS (w.setCell ⟨k, i, none⟩ (.bool b)) k (bs.set i b) := by
  unfold BsS
  rw [← boolsA_set]
  exact blk_set h i _
theorem BsS.below {w w' : World} {k : Nat} {bs : List Bool} (h : BsS w k bs) (b : Below w.heap.size w w') : BsS w' k bs := (b.block k (Array.getElem?_eq_some_iff.1 h).1).trans h
theorem SetC.turn {w w' : World} {q k t : Nat} {V : Value} {o : Option (List Bool)} {p : Value} {cs : Array Value} (h : SetC w q V o p) (ht : t ≠ 325) (hk : w.heap[k]? = some (.cells cs t)) (T : Turn (fun j => j = k) w w') : SetC w' q V o p := by
  cases o with
  | none => exact h
  | some bs =>
    obtain ⟨g, e, h1, h2, h3, h4⟩ := h
    refine ⟨g, e, h1, h2, h3, (T.block g (Array.getElem?_eq_some_iff.1 h4).1 ?_).trans h4⟩
    rintro rfl
    rw [hk] at h4
    simp only [Option.some.injEq, Obj.cells.injEq] at h4
    exact ht h4.2.1
theorem StsC.turn {w w' : World} {q k t : Nat} {V : Value} {l : List St} {vs : List Value} {cs : Array Value} (h : StsC w q V l vs) (ht : t ≠ 325) (hk : w.heap[k]? = some (.cells cs t)) (T : Turn (fun j => j = k) w w') : StsC w' q V l vs := by
  induction h with
  | nil => exact .nil
  | snoc h hp ih => exact .snoc ih (hp.turn ht hk T)
/-- A slice of bools that is written changes no automaton. -/
theorem RegC.turn {w w' : World} {g p k : Nat} {l : List St} {bs : List Bool} (h : RegC w g l p) (hk : BsS w k bs) (T : Turn (fun j => j = k) w w') : RegC w' g l p := by
  obtain ⟨V, q, cs, h1, h2, h3⟩ := h
  have hkg : g ≠ k := by rintro rfl; rw [hk] at h1; simp at h1
  refine ⟨V, q, cs, (T.block g (Array.getElem?_eq_some_iff.1 h1).1 hkg).trans h1, ?_, h3.turn (by decide) hk T⟩
  refine ⟨h2.1, ?_⟩
  rcases h2.2 with hn | ⟨g', cap, cur, e, hb', hg', rest⟩
  · exact .inl hn
  · refine .inr ⟨g', cap, cur, e, hb', (T.block g' (Array.getElem?_eq_some_iff.1 hg').1 ?_).trans hg', rest⟩
    rintro rfl
    rw [hk] at hg'
    simp at hg'
/-- All that is reached from a state, without reading. -/
def reachM : Nat → List St → Int → List Bool → List Bool
  | 0, _, _, bs => bs
  | f + 1, l, i, bs => if i < 0 then bs else if bs[i.toNat]? = some true then bs else
    match l[i.toNat]? with
    | none => bs
    | some st => match st.set with
      | some _ => bs.set i.toNat true
      | none => reachM f l st.other (reachM f l st.next (bs.set i.toNat true))
/-- Among the first n states all places that are told are among these. -/
def ReN (n : Nat) (l : List St) : Prop := ∀ i st, i < n → l[i]? = some st → -1 ≤ st.next ∧ st.next < n ∧ -1 ≤ st.other ∧ st.other < n
theorem reachM_len : ∀ (f : Nat) (l : List St) (i : Int) (bs : List Bool), (reachM f l i bs).length = bs.length
  | 0, _, _, _ => rfl
  | f + 1, l, i, bs => by
    simp only [reachM]
    split
    · rfl
    · split
      · rfl
      · split
        · rfl
        · split
          · rw [List.length_set]
          · rw [reachM_len f, reachM_len f, List.length_set]
theorem count_set : ∀ (bs : List Bool) (i : Nat), bs[i]? = some false → (bs.set i true).count false + 1 = bs.count false
  | [], i, h => by simp at h
  | b :: bs, 0, h => by simp only [List.getElem?_cons_zero, Option.some.injEq] at h; subst h; simp
  | b :: bs, i + 1, h => by
    have := count_set bs i (by simpa using h)
    simp only [List.set_cons_succ, List.count_cons]
    omega
theorem reachM_count : ∀ (f : Nat) (l : List St) (i : Int) (bs : List Bool), (reachM f l i bs).count false ≤ bs.count false
  | 0, _, _, _ => Nat.le_refl _
  | f + 1, l, i, bs => by
    simp only [reachM]
    split
    · exact Nat.le_refl _
    · rename_i hi
      split
      · exact Nat.le_refl _
      · rename_i ht
        have hle : (bs.set i.toNat true).count false ≤ bs.count false := by
          cases hb : bs[i.toNat]? with
          | none =>
            rw [List.set_eq_of_length_le (List.getElem?_eq_none_iff.1 hb)]; exact Nat.le_refl _
          | some b =>
            cases b with
            | true => exact absurd hb ht
            | false => have := count_set bs i.toNat hb; omega
        split
        · exact Nat.le_refl _
        · split
          · exact hle
          · exact Nat.le_trans (reachM_count f _ _ _) (Nat.le_trans (reachM_count f _ _ _) hle)
def ReachHyp (f : Nat) : Prop := ∀ (w : World) (g p k : Nat) (l : List St) (i : Int) (bs : List Bool) (N : Nat), RegC w g l p → BsS w k bs → bs.length = N → N ≤ l.length → l.length ≤ maxLen → ReN N l → -1 ≤ i → i < N → bs.count false < f →
  Calls Tryz.prog 203 #[.pointer (some ⟨g, 0, none⟩), .int .i64 i, .slice (some ⟨k, 0, none⟩) N N] w fun e w' => e = .returned (.tuple #[]) ∧ BsS w' k (reachM f l i bs) ∧ Turn (fun j => j = k) w w'
set_option maxRecDepth 100000 in
set_option maxHeartbeats 4000000 in
theorem reach_step {f : Nat} (IH : ReachHyp f) : ReachHyp (f + 1) := by
  intro w g p k l i bs N hr hb hN hNl hml hn hi hiN hc
  unfold maxLen at hml
  obtain ⟨R, hR⟩ : ∃ R, reachM (f + 1) l i bs = R := ⟨_, rfl⟩
  rw [hR]
  simp only [reachM] at hR
  have HB := Lib.hid hb
  by_cases h0 : i < 0
  · rw [if_pos h0] at hR
    subst hR
    clear hb hr hn
    go_enter Tryz.func203, Tryz.ntmps203
    go_wp2_with fail
    refine bodyPost_ret (results_none (fn := Tryz.f203) rfl _ _ _) rfl ?_
    exact ⟨rfl, HB.out, Turn.refl _ _⟩
  · rw [if_neg h0] at hR
    obtain ⟨m, rfl⟩ : ∃ m : Nat, i = m := ⟨i.toNat, by omega⟩
    rw [Int.toNat_natCast] at hR
    have hm : m < bs.length := by omega
    obtain ⟨b, hbm⟩ : ∃ b, bs[m]? = some b := ⟨_, List.getElem?_eq_getElem hm⟩
    obtain ⟨k0, k1⟩ := hb.cell hbm
    have hmi : (m : Int) < (N : Int) := hiN
    cases b with
    | true =>
      rw [if_pos hbm] at hR
      subst hR
      clear hb hr hn hbm
      go_enter Tryz.func203, Tryz.ntmps203
      go_wp2_with fail
      refine bodyPost_ret (results_none (fn := Tryz.f203) rfl _ _ _) rfl ?_
      exact ⟨rfl, HB.out, Turn.refl _ _⟩
    | false =>
      rw [if_neg (by rw [hbm]; simp)] at hR
      have hml' : m < l.length := by omega
      obtain ⟨st, hst⟩ : ∃ st, l[m]? = some st := ⟨_, List.getElem?_eq_getElem hml'⟩
      rw [hst] at hR
      dsimp only at hR
      have hcs := count_set bs m hbm
      have hb1 := hb.set m true
      have T1 : Turn (fun j => j = k) w (w.setCell ⟨k, m, none⟩ (.bool true)) := turn_set w k m (.bool true) _ rfl
      have hr1 := hr.turn hb T1
      obtain ⟨sb, cap, pv, ra⟩ := hr1.at hst
      have HS := Lib.hid (And.intro hb1 (And.intro T1 (And.intro hr1 hn)))
      have HR := Lib.hid hR
      have hnst := hn m st (by omega) hst
      have d0 := ra.c0
      have d1 := ra.s0
      have d2 := ra.s1
      have d3 := ra.s2
      have hset := ra.set
      have hmi2 : (m : Int) < (l.length : Int) := by omega
      clear hb hr hn hbm hb1 T1 hr1 ra hst hR
      go_enter Tryz.func203, Tryz.ntmps203
      go_upto_region 2 with fail
      generalize w.setCell _ _ = w1 at HS d0 d1 d2 d3 hset ⊢
      cases hs : st.set with
      | some bs2 =>
        have hR := HR.out
        rw [hs] at hset hR
        obtain ⟨sg, rfl, -, -⟩ := hset
        have hR : bs.set m true = R := hR
        subst hR
        clear HR hs
        have H2 := Lib.hid (Below.alloc (Below.refl w1.heap.size w1) (Nat.le_refl _) (.cells #[.pointer (some ⟨sg, 0, none⟩), .int .i64 st.next, .int .i64 st.other] 264))
        go_wp2_with fail
        go_end0
        exact ⟨rfl, HS.out.1.below H2.out, HS.out.2.1.trans (Turn.of_below H2.out)⟩
      | none =>
        have hR := HR.out
        rw [hs] at hset hR
        have hR : reachM f l st.other (reachM f l st.next (bs.set m true)) = R := hR
        subst hset
        clear HR hs
        have HR := Lib.hid hR
        clear hR
        have H2 := Lib.hid (Below.alloc (Below.refl w1.heap.size w1) (Nat.le_refl _) (.cells #[.pointer none, .int .i64 st.next, .int .i64 st.other] 264))
        have r2 := heap_alloc_new w1 (.cells #[.pointer none, .int .i64 st.next, .int .i64 st.other] 264)
        have hbk : k ≠ w1.heap.size := Nat.ne_of_lt (Array.getElem?_eq_some_iff.1 HS.out.1).1
        go_upto_region 3 with fail
        generalize w1.alloc _ = w2 at H2 r2 ⊢
        have HE := Lib.hid (And.intro (HS.out.1.below H2.out) (And.intro (HS.out.2.2.1.below H2.out) (HS.out.2.1.trans (Turn.of_below (S := fun j => j = k) H2.out))))
        have hN2 : (bs.set m true).length = N := by rw [List.length_set]; exact hN
        have H1 := Lib.hid (IH w2 g p k l st.next (bs.set m true) N HE.out.2.1 HE.out.1 hN2 hNl hml HS.out.2.2.2 hnst.1 hnst.2.1 (by omega))
        generalize hb2 : w1.heap.size = b2 at r2 hbk ⊢
        have c1 : w2.cell? ⟨b2, 0, none⟩ = some (.pointer none) := (cells_of r2 0).1
        have c2 : w2.cell? ⟨b2, 1, none⟩ = some (.int .i64 st.next) := (cells_of r2 1).1
        go_upto_region 5 with (first | (go_at_call 203; refine H1.out.mono ?_; rintro e w3 ⟨rfl, h3, t3⟩; have H3 := Lib.hid (And.intro h3 t3); clear h3 t3))
        have r3 := (H3.out.2.block b2 (Array.getElem?_eq_some_iff.1 r2).1 (fun e => hbk e.symm)).trans r2
        have c3 : w3.cell? ⟨b2, 2, none⟩ = some (.int .i64 st.other) := (cells_of r3 2).1
        have hcn := reachM_count f l st.next (bs.set m true)
        have HG := Lib.hid (IH w3 g p k l st.other (reachM f l st.next (bs.set m true)) N (HE.out.2.1.turn HE.out.1 H3.out.2) H3.out.1 (by rw [reachM_len]; exact hN2) hNl hml HS.out.2.2.2 hnst.2.2.1 hnst.2.2.2 (by omega))
        clear H1 r2 r3 c1 c2
        go_wp2_with (first | (go_at_call 203; refine HG.out.mono ?_; rintro e w4 ⟨rfl, h4, t4⟩; have H4 := Lib.hid (And.intro h4 t4); clear h4 t4))
        go_end0
        refine ⟨rfl, ?_, HE.out.2.2.trans (H3.out.2.trans H4.out.2)⟩
        rw [← HR.out]
        exact H4.out.1
theorem reach_hyp : ∀ f, ReachHyp f
  | 0 => fun w g p k l i bs N _ _ _ _ _ _ _ _ hc => absurd hc (Nat.not_lt_zero _)
  | f + 1 => reach_step (reach_hyp f)
end Go.Proofs.YtcdeikhfmllkdaaGreatDoor

/- regex: Match, Like. -/
namespace Go.Proofs.YtcdeikhfmllkdaaGreatDoor
open Go.RowKit
set_option linter.unusedVariables false
set_option linter.unusedSimpArgs false
/-- What is reached of the first j states by reading c. -/
def stepM (l : List St) (n : Nat) (c : UInt8) (inn : List Bool) : Nat → List Bool
  | 0 => List.replicate n false
  | j + 1 => if inn[j]? = some true then
      match l[j]? with
      | none => stepM l n c inn j
      | some st => match st.set with
        | none => stepM l n c inn j
        | some bs => if bs[c.toNat]? = some true then reachM (n + 1) l st.next (stepM l n c inn j) else stepM l n c inn j
    else stepM l n c inn j
theorem stepM_len (l : List St) (n : Nat) (c : UInt8) (inn : List Bool) : ∀ j, (stepM l n c inn j).length = n
  | 0 => List.length_replicate
  | j + 1 => by
    have ih := stepM_len l n c inn j
    unfold stepM
    split
    · split
      · exact ih
      · split
        · exact ih
        · split
          · rw [reachM_len]; exact ih
          · exact ih
    · exact ih
def runM (l : List St) (n p : Nat) (s : Bytes) : List Bool := s.foldl (fun inn c => stepM l n c inn n) (reachM (n + 1) l p (List.replicate n false))
def matchM (l : List St) (p : Nat) (s : Bytes) : Bool :=
  match l[l.length - 1]? with
  | none => false
  | some st => (runM l (l.length - 1) p s)[st.other.toNat]? == some true
theorem runM_len (l : List St) (n p : Nat) (s : Bytes) : (runM l n p s).length = n := by
  suffices h : ∀ (s : Bytes) (i : List Bool), i.length = n → (s.foldl (fun inn c => stepM l n c inn n) i).length = n from h s _ (by rw [reachM_len, List.length_replicate])
  intro s
  induction s with
  | nil => exact fun i h => h
  | cons c s ih => exact fun i h => ih _ (stepM_len _ _ _ _ _)
theorem runM_snoc (l : List St) (n p : Nat) (s : Bytes) {k : Nat} (h : k < s.length) : runM l n p (s.take (k + 1)) = stepM l n s[k] (runM l n p (s.take k)) n := by
  rw [List.take_succ_eq_append_getElem h]
  unfold runM
  rw [List.foldl_append]
  rfl
structure MtRel (w wr : World) (g p n : Nat) (l : List St) (kin : Nat) (inn : List Bool) : Prop where
  reg : RegC wr g l p
  bss : BsS wr kin inn
  len : inn.length = n
  lo : w.heap.size ≤ kin
  bel : Below w.heap.size w wr
theorem MtRel.below {w w1 w2 : World} {g p n kin : Nat} {l : List St} {inn : List Bool} (H : MtRel w w1 g p n l kin inn) (b : Below w1.heap.size w1 w2) : MtRel w w2 g p n l kin inn :=
  ⟨H.reg.below b, H.bss.below b, H.len, H.lo, H.bel.trans (b.mono H.bel.size)⟩
structure MtIn (w wr : World) (g p n : Nat) (l : List St) (kin : Nat) (inn : List Bool) (kout : Nat) (out : List Bool) : Prop where
  mt : MtRel w wr g p n l kin inn
  bo : BsS wr kout out
  leno : out.length = n
  loo : w.heap.size ≤ kout
  ne : kout ≠ kin
theorem MtIn.below {w w1 w2 : World} {g p n kin kout : Nat} {l : List St} {inn out : List Bool} (H : MtIn w w1 g p n l kin inn kout out) (b : Below w1.heap.size w1 w2) : MtIn w w2 g p n l kin inn kout out :=
  ⟨H.mt.below b, H.bo.below b, H.leno, H.loo, H.ne⟩
theorem Turn.bel {w w1 w2 : World} {k : Nat} (hb : Below w.heap.size w w1) (T : Turn (fun j => j = k) w1 w2) (hk : w.heap.size ≤ k) : Below w.heap.size w w2 :=
  hb.trans (T.to_below hb.size (fun j hj => by rw [hj]; exact hk))
theorem MtIn.turn {w w1 w2 : World} {g p n kin kout : Nat} {l : List St} {inn out out' : List Bool} (H : MtIn w w1 g p n l kin inn kout out) (T : Turn (fun j => j = kout) w1 w2) (ho : BsS w2 kout out') (hl : out'.length = n) : MtIn w w2 g p n l kin inn kout out' :=
  ⟨⟨H.mt.reg.turn H.bo T, (T.block kin (Array.getElem?_eq_some_iff.1 H.mt.bss).1 (fun e => H.ne e.symm)).trans H.mt.bss, H.mt.len, H.mt.lo, Turn.bel H.mt.bel T H.loo⟩, ho, hl, H.loo, H.ne⟩
theorem MtIn.out {w wr : World} {g p n kin kout : Nat} {l : List St} {inn out : List Bool} (H : MtIn w wr g p n l kin inn kout out) : MtRel w wr g p n l kout out := ⟨H.mt.reg, H.bo, H.leno, H.loo, H.mt.bel⟩
theorem Tryz.underlying267 : Tryz.prog.underlying 267 = some (.slice 4) := by kernel_rfl
theorem Tryz.info4 : (Tryz.prog.info? 4).map (fun i => (i.zero, i.size, i.bytes)) = some (some (.bool false), 1, 1) := by kernel_rfl
/-- A slice of bools that is made. -/
theorem made_bss {w : World} {B k n : Nat} (h : w.ownsRow B 4 1 (.slice (some ⟨k, 0, none⟩) n n) n (madeCells (Value.cells (.bool false)) (n * 1)).toList) : BsS w k (List.replicate n false) := by
  rcases h.2 with ⟨hn, _⟩ | ⟨g', cap, cur, e, hb', hg', hc, hm, hsz, ht⟩
  · cases hn
  · simp only [Value.slice.injEq, Option.some.injEq, Addr.mk.injEq] at e
    obtain ⟨⟨rfl, -, -⟩, -, rfl⟩ := e
    unfold BsS
    rw [hg']
    congr 2
    apply Array.ext'
    rw [List.take_of_length_le (by simp [hsz])] at ht
    rw [ht, show Value.cells (.bool false) = #[.bool false] from rfl, toList_madeCells_one]
    simp [boolsA]
theorem ReOk.split {l : List St} {p : Nat} (h : ReOk l p) : ∃ (n e : Nat), l.length = n + 1 ∧ e < n ∧ p < n ∧ n ≤ 257 ∧ ReN n l ∧ l[n]? = some ⟨none, -1, e⟩ := by
  obtain ⟨l0, e, rfl, he, hw, hp, hl⟩ := h
  refine ⟨l0.length, e, by simp, he, hp, hl, fun i st hi hst => ?_, ?_⟩
  · rw [List.getElem?_append_left hi] at hst
    exact hw st (List.mem_of_getElem? hst)
  · rw [List.getElem?_append_right (Nat.le_refl _), Nat.sub_self]; rfl
theorem RegAt.ptr {w : World} {g p n sb cap i : Nat} {pv : Value} {st : St} (h : RegAt w g p n sb cap pv i st) : ∃ po, pv = .pointer po := by
  have := h.set
  split at this
  · exact ⟨none, this⟩
  · obtain ⟨sg, e, _⟩ := this; exact ⟨_, e⟩
set_option maxRecDepth 100000 in
set_option maxHeartbeats 4000000 in
theorem match_any {w : World} {g p : Nat} {l : List St} {s : Bytes} (hr : RegC w g l p) (ok : ReOk l p) (hs : s.length ≤ maxLen) : Calls Tryz.prog 166 #[.pointer (some ⟨g, 0, none⟩), .string (str s)] w fun e w' => e = .returned (.bool (matchM l p s)) ∧ Below w.heap.size w w' := by
  unfold maxLen at hs
  obtain ⟨n, en, hln, hen, hpn, hn257, hN, hlast⟩ := ok.split
  have hres : matchM l p s = ((runM l n p s)[en]? == some true) := by
    unfold matchM; rw [hln, Nat.add_sub_cancel, hlast]; rfl
  rw [hres]
  obtain ⟨i4, hi4, iz0, iz1, iz2⟩ := info_parts Tryz.info4
  have hgw : g < w.heap.size := by obtain ⟨V, q, cs, h1, _⟩ := hr; exact (Array.getElem?_eq_some_iff.1 h1).1
  obtain ⟨sb, cap, pv, ra⟩ := hr.at hlast
  have c0 := ra.c0
  rw [hln] at c0
  have c1 := ra.c1
  have HH := Lib.hid (And.intro hr hN)
  have HL := Lib.hid hlast
  clear hres hlast ra ok
  have hsz := str_size s
  obtain ⟨S, hS⟩ : ∃ S, str s = S := ⟨_, rfl⟩
  have HGet : Hid (∀ n (hn : n < s.length) (hn2 : n < S.size), S[n]'hn2 = s[n]'hn) := by
    subst hS; exact Lib.hid (fun n hn hn2 => str_get s n hn hn2)
  rw [hS] at hsz ⊢
  clear hS hr hN
  have hnw : ((n + 1 : Nat) : Int) - 1 = n := by omega
  go_enter Tryz.func166, Tryz.ntmps166
  go_upto_region 5 with (first | (at_make; refine wpList_make_full _ rfl _ _ 267 rfl 0 4 i4 (.bool false) 1 Tryz.underlying267 hi4 iz0 iz1 .i64 .i64 n n n rfl rfl rfl rfl (by rw [iz2]; omega) (by unfold maxLen; omega) (Nat.zero_le _) ?_; intro w1 hown1 hgrow1; have H1 := Lib.hid (And.intro (made_bss hown1) ((Below.refl w.heap.size w).grown hgrow1 (Nat.le_refl _) (fun _ h => nomatch h))); clear hown1 hgrow1))
  have hk1 : w.heap.size ≤ w.heap.size := Nat.le_refl _
  generalize hkk : w.heap.size = k1 at H1 hk1 hgw ⊢
  have HR1 := Lib.hid (HH.out.1.below (hkk ▸ H1.out.2))
  have d1 := (H1.out.2.cell (p := ⟨g, 1, none⟩) hgw).trans c1
  have d0 := (H1.out.2.cell (p := ⟨g, 0, none⟩) hgw).trans c0
  have HC := Lib.hid (reach_hyp (n + 1) w1 g p k1 l p (List.replicate n false) n HR1.out H1.out.1 List.length_replicate (by omega) (by unfold maxLen; omega) HH.out.2 (by omega) (by omega) (by rw [List.count_replicate_self]; omega))
  go_upto_region 6 with (first | (go_at_call 203; refine HC.out.mono ?_; rintro e w2 ⟨rfl, h2, t2⟩; have H2 := Lib.hid (And.intro h2 t2); clear h2 t2))
  have HM : Hid (MtRel w w2 g p n l k1 (runM l n p (s.take 0))) := by
    refine Lib.hid ⟨HR1.out.turn H1.out.1 H2.out.2, ?_, runM_len _ _ _ _, by omega, Turn.bel (hkk ▸ H1.out.2) H2.out.2 (by omega)⟩
    rw [List.take_zero]
    exact H2.out.1
  clear HC HR1 H1 H2 c0 c1 d0 d1 hkk hgw
  go_wp2_with fail
  go_loopw [6, 31] (fun v6 v31 wr => ∃ (i k : Nat), v31 = .int .i64 i ∧ v6 = .slice (some ⟨k, 0, none⟩) n n ∧ i ≤ s.length ∧ MtRel w wr g p n l k (runM l n p (s.take i))) (fun _ v _ => s.length - (intOf v).toNat)
  case atStart => exact ⟨0, k1, rfl, rfl, by omega, HM.out⟩
  case round =>
    obtain ⟨i, k, rfl, rfl, hi, hm⟩ := hrel
    have HB := Lib.hid hm
    clear hm HM
    by_cases hlt : i < s.length
    · obtain ⟨c, hc⟩ : ∃ c, s[i] = c := ⟨_, rfl⟩
      have hn2 : i < S.size := by omega
      have hsc := (HGet.out i hlt hn2).trans hc
      have hin : (runM l n p (s.take (i + 1))) = stepM l n c (runM l n p (s.take i)) n := by rw [← hc]; exact runM_snoc l n p s hlt
      obtain ⟨inn, hinn⟩ : ∃ inn, runM l n p (s.take i) = inn := ⟨_, rfl⟩
      rw [hinn] at HB hin
      have HIN := Lib.hid hin
      clear hc hin hinn
      go_upto_region 10 with (first | (at_make; refine wpList_make_full _ rfl _ _ 267 rfl 0 4 i4 (.bool false) 1 Tryz.underlying267 hi4 iz0 iz1 .i64 .i64 n n n rfl rfl rfl rfl (by rw [iz2]; omega) (by unfold maxLen; omega) (Nat.zero_le _) ?_; intro w3 hown3 hgrow3; have H3 := Lib.hid (And.intro (made_bss hown3) ((Below.refl wr.heap.size wr).grown hgrow3 (Nat.le_refl _) (fun _ h => nomatch h))); clear hown3 hgrow3))
      have HI : Hid (MtIn w w3 g p n l k inn wr.heap.size (stepM l n c inn 0)) := Lib.hid ⟨HB.out.below H3.out.2, H3.out.1, List.length_replicate, HB.out.bel.size, Nat.ne_of_gt (Array.getElem?_eq_some_iff.1 HB.out.bss).1⟩
      clear HB H3
      generalize wr.heap.size = ko at HI ⊢
      go_wp2_with fail
      go_loopw [38] (fun v wi => ∃ j : Nat, v = .int .i64 j ∧ j ≤ n ∧ MtIn w wi g p n l k inn ko (stepM l n c inn j)) (fun v _ => n - (intOf v).toNat)
      case atStart => exact ⟨0, rfl, by omega, HI.out⟩
      case round =>
        obtain ⟨j, rfl, hj, hm⟩ := hrel
        rename World => wi
        have HB := Lib.hid hm
        clear hm HI
        by_cases hlj : j < n
        · obtain ⟨b, hb⟩ : ∃ b, inn[j]? = some b := ⟨_, List.getElem?_eq_getElem (by rw [HB.out.mt.len]; exact hlj)⟩
          obtain ⟨st, hst⟩ : ∃ st, l[j]? = some st := ⟨_, List.getElem?_eq_getElem (by omega)⟩
          have hnst := HH.out.2 j st hlj hst
          obtain ⟨sb2, cap2, pv2, ra⟩ := HB.out.mt.reg.at hst
          have hstep : stepM l n c inn (j + 1) = if b = true then (match st.set with
              | none => stepM l n c inn j
              | some bs => if bs[c.toNat]? = some true then reachM (n + 1) l st.next (stepM l n c inn j) else stepM l n c inn j) else stepM l n c inn j := by
            conv => lhs; unfold stepM
            rw [hb, hst]
            simp only [Option.some.injEq]
          have HS := Lib.hid hstep
          obtain ⟨k0, -⟩ := HB.out.mt.bss.cell hb
          have d0 := ra.c0
          rw [hln] at d0
          have d1 := ra.s0
          have d2 := ra.s1
          have d3 := ra.s2
          obtain ⟨po, rfl⟩ := ra.ptr
          have hset := ra.set
          have hjl : (j : Int) < (n : Int) := by omega
          have hjl2 : (j : Int) < (n : Int) + 1 := by omega
          clear hb hst hstep ra
          cases b with
          | false =>
            have hQ := HS.out
            rw [if_neg (by simp)] at hQ
            have HQ := Lib.hid hQ
            clear hQ HS hset
            have H4 := Lib.hid (HB.out.below ((Below.refl _ wi).alloc (Nat.le_refl _) (.cells #[.pointer po, .int .i64 st.next, .int .i64 st.other] 264)))
            go_upto_region 14 with fail
            generalize wi.alloc _ = w4 at H4 ⊢
            go_quiet (fail)
            have H5 := Lib.hid (H4.out.below (below_drewN (Below.refl _ w4) nq))
            generalize w4.drewN nq = w5 at H5 ⊢
            go_wp2_with fail
            go_roundw
            case measure => simp [intOf]; omega
            case rel => exact ⟨j + 1, by go_num, by omega, by rw [HQ.out]; exact H5.out⟩
          | true =>
            have hQ := HS.out
            rw [if_pos rfl] at hQ
            have H4 := Lib.hid (HB.out.below ((Below.refl _ wi).alloc (Nat.le_refl _) (.cells #[.pointer po, .int .i64 st.next, .int .i64 st.other] 264)))
            have r4 := heap_alloc_new wi (.cells #[.pointer po, .int .i64 st.next, .int .i64 st.other] 264)
            have b4 := (Below.refl wi.heap.size wi).alloc (Nat.le_refl _) (.cells #[.pointer po, .int .i64 st.next, .int .i64 st.other] 264)
            cases hs : st.set with
            | none =>
              rw [hs] at hQ hset
              have hpo : po = none := by simpa using hset
              subst hpo
              have HQ := Lib.hid hQ
              clear hQ HS hset hs
              go_upto_region 14 with fail
              generalize wi.heap.size = b5 at r4 b4 ⊢
              generalize wi.alloc _ = w4 at H4 r4 b4 ⊢
              have e0 : w4.cell? ⟨b5, 0, none⟩ = some (.pointer none) := (cells_of r4 0).1
              go_quiet (fail)
              have H5 := Lib.hid (H4.out.below (below_drewN (Below.refl _ w4) nq))
              generalize w4.drewN nq = w5 at H5 ⊢
              go_wp2_with fail
              go_roundw
              case measure => simp [intOf]; omega
              case rel => exact ⟨j + 1, by go_num, by omega, by rw [HQ.out]; exact H5.out⟩
            | some bs =>
              rw [hs] at hQ hset
              obtain ⟨sg, hpo, hl256, hrow⟩ := hset
              have hpo : po = some ⟨sg, 0, none⟩ := by simpa using hpo
              subst hpo
              have hc256 := c.toNat_lt
              obtain ⟨v, hv⟩ : ∃ v, bs[c.toNat]? = some v := ⟨_, List.getElem?_eq_getElem (by omega)⟩
              dsimp only at hQ
              rw [hv] at hQ
              have hrow4 := (b4.block sg (Array.getElem?_eq_some_iff.1 hrow).1).trans hrow
              have e4 := (cells_of hrow4 c.toNat).1
              rw [boolsA_get, hv] at e4
              have e4 : (wi.alloc (.cells #[.pointer (some ⟨sg, 0, none⟩), .int .i64 st.next, .int .i64 st.other] 264)).cell? ⟨sg, c.toNat, none⟩ = some (.bool v) := e4
              have HQ := Lib.hid hQ
              have hci : (c.toNat : Int) < 256 := by omega
              clear hQ HS hs hv hrow hrow4
              go_upto_region 14 with fail
              generalize wi.heap.size = b5 at r4 b4 ⊢
              generalize wi.alloc _ = w4 at H4 r4 b4 e4 ⊢
              have e0 : w4.cell? ⟨b5, 0, none⟩ = some (.pointer (some ⟨sg, 0, none⟩)) := (cells_of r4 0).1
              cases v with
              | false =>
                go_quiet (fail)
                have H5 := Lib.hid (H4.out.below (below_drewN (Below.refl _ w4) nq))
                generalize w4.drewN nq = w5 at H5 ⊢
                go_wp2_with fail
                go_roundw
                case measure => simp [intOf]; omega
                case rel => exact ⟨j + 1, by go_num, by omega, by rw [HQ.out]; exact H5.out⟩
              | true =>
                go_quiet (fail)
                have H5 := Lib.hid (H4.out.below (below_drewN (Below.refl _ w4) nq))
                have r5 : (w4.drewN nq).heap[b5]? = some (.cells #[.pointer (some ⟨sg, 0, none⟩), .int .i64 st.next, .int .i64 st.other] 264) := ((below_drewN (Below.refl _ w4) nq).block b5 (Array.getElem?_eq_some_iff.1 r4).1).trans r4
                generalize w4.drewN nq = w5 at H5 r5 ⊢
                have e1 : w5.cell? ⟨b5, 1, none⟩ = some (.int .i64 st.next) := (cells_of r5 1).1
                have HC := Lib.hid (reach_hyp (n + 1) w5 g p ko l st.next (stepM l n c inn j) n H5.out.mt.reg H5.out.bo (stepM_len _ _ _ _ _) (by omega) (by unfold maxLen; omega) HH.out.2 hnst.1 hnst.2.1 (by have := List.count_le_length (a := false) (l := stepM l n c inn j); rw [stepM_len] at this; omega))
                go_wp2_with (first | (go_at_call 203; refine HC.out.mono ?_; rintro e w6 ⟨rfl, h6, t6⟩; have H6 := Lib.hid (And.intro h6 t6); clear h6 t6))
                go_roundw
                case measure => simp [intOf]; omega
                case rel => exact ⟨j + 1, by go_num, by omega, by rw [HQ.out.trans (show _ = reachM (n + 1) l st.next (stepM l n c inn j) by simp)]; exact H5.out.turn H6.out.2 H6.out.1 (by rw [reachM_len]; exact stepM_len _ _ _ _ _)⟩
        · have hjn : j = n := by omega
          subst hjn
          go_wp2_with fail
          go_roundw
          case measure => simp [intOf]; omega
          case rel => exact ⟨i + 1, ko, by go_num, rfl, by omega, by rw [HIN.out]; exact HB.out.out⟩
    · have hie : i = s.length := by omega
      subst hie
      have hst : l[n]? = some ⟨none, -1, en⟩ := HL.out
      obtain ⟨sb2, cap2, pv2, ra⟩ := HB.out.reg.at hst
      have d0 := ra.c0
      rw [hln] at d0
      have d3 := ra.s2
      have hnl : (n : Int) < (n : Int) + 1 := by omega
      obtain ⟨b, hb⟩ : ∃ b, (runM l n p s)[en]? = some b := ⟨_, List.getElem?_eq_getElem (by rw [runM_len]; exact hen)⟩
      have hbs := HB.out.bss
      rw [List.take_length] at hbs
      obtain ⟨k0, -⟩ := hbs.cell hb
      have hei : (en : Int) < (n : Int) := by omega
      have hbel := Lib.hid HB.out.bel
      have HBB := Lib.hid hb
      clear hb hbs ra hst HB
      dsimp only at d3
      go_wp2_with fail
      go_ret
      rw [HBB.out]
      exact ⟨by cases b <;> rfl, hbel.out⟩
/-- Like, as a plain function. -/
def likeM (re s : Bytes) : Bool × Nat :=
  match compileM re with
  | .error m => (false, m)
  | .ok x => (matchM x.1 x.2 s, 0)
theorem compileM_err {s : Bytes} {m : Nat} (h : compileM s = .error m) : m = 5 ∨ m = 9 := by
  unfold compileM at h
  split at h
  · simp only [Except.error.injEq] at h; omega
  · split at h
    · simp only [Except.error.injEq] at h; omega
    · split at h
      · cases h
      · simp only [Except.error.injEq] at h; omega
set_option maxRecDepth 100000 in
set_option maxHeartbeats 1000000 in
theorem like_any {w : World} {re s : Bytes} (hr : re.length ≤ maxLen) (hs : s.length ≤ maxLen) : Calls Tryz.prog 129 #[.string (str re), .string (str s)] w fun e w' => e = .returned (.tuple #[.bool (likeM re s).1, .int .i64 (likeM re s).2]) ∧ Below w.heap.size w w' := by
  have HC := Lib.hid (compile_any (w := w) hr)
  unfold likeM
  cases hc : compileM re with
  | error m =>
    rw [hc] at HC
    have hm : ((m : Int) != 0) = true := by rw [bne_iff_ne]; have := compileM_err hc; omega
    have HC : Hid (Calls Tryz.prog 165 #[.string (str re)] w fun e w' => Below w.heap.size w w' ∧ e = .returned (.tuple #[.pointer none, .int .i64 m])) := Lib.hid HC.out
    clear hc
    go_enter Tryz.func129, Tryz.ntmps129
    go_wp2_with (first | (go_at_call 165; refine HC.out.mono ?_; rintro e w2 ⟨b2, rfl⟩; have H2 := Lib.hid b2; clear b2))
    go_ret2
    exact ⟨rfl, H2.out⟩
  | ok x =>
    obtain ⟨l, p⟩ := x
    rw [hc] at HC
    have hok := Lib.hid (compileM_ok hc)
    have HC : Hid (Calls Tryz.prog 165 #[.string (str re)] w fun e w' => Below w.heap.size w w' ∧ ∃ g, e = .returned (.tuple #[.pointer (some ⟨g, 0, none⟩), .int .i64 0]) ∧ RegC w' g l p) := Lib.hid HC.out
    clear hc
    go_enter Tryz.func129, Tryz.ntmps129
    go_upto_region 4 with (first | (go_at_call 165; refine HC.out.mono ?_; rintro e w2 ⟨b2, g, rfl, r2⟩; have H2 := Lib.hid (And.intro b2 r2); clear b2 r2))
    have HM := Lib.hid (match_any (s := s) H2.out.2 hok.out hs)
    go_wp2_with (first | (go_at_call 166; refine HM.out.mono ?_; rintro e w3 ⟨rfl, b3⟩; have H3 := Lib.hid b3; clear b3))
    go_ret2
    exact ⟨rfl, H2.out.1.trans (H3.out.mono H2.out.1.size)⟩
end Go.Proofs.YtcdeikhfmllkdaaGreatDoor
