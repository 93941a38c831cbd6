/- template's nodes in memory; the parser's state; a block. -/
import Derived.Test.YtllhpkpckjacfaaGreatDoorTmA
namespace Go.Proofs.YtllhpkpckjacfaaGreatDoor
open Go.RowKit Go.Proofs.YtllhpkpckjacfaaGreatDoorW.PrintWords PTemplateFilters
set_option linter.unusedVariables false
set_option linter.unusedSimpArgs false

/-- A value that stands for a node, so deep. -/
def NdK (ok : Nat → Prop) (w : World) : Nat → Value → Nd → Prop
  | 0, _, _ => False
  | _ + 1, v, .lit s => v = .iface 156 (.string (str s))
  | _ + 1, v, .place a f => ∃ V0 V1, v = .iface 163 (.agg #[V0, V1]) ∧ SsK ok w V0 a ∧ RowK ok w (fun v x => SsK ok w v x) V1 f
  | d + 1, v, .loop s inn => ∃ V, v = .iface 159 (.agg #[.string (str s), V]) ∧ RowK ok w (NdK ok w d) V inn
  | d + 1, v, .choice a f y n => ∃ V0 V1 V2 V3, v = .iface 167 (.agg #[V0, V1, V2, V3]) ∧ SsK ok w V0 a ∧ RowK ok w (fun v x => SsK ok w v x) V1 f ∧ RowK ok w (NdK ok w d) V2 y ∧ RowK ok w (NdK ok w d) V3 n
abbrev NdsK (ok : Nat → Prop) (w : World) (d : Nat) (V : Value) (l : List Nd) : Prop := RowK ok w (NdK ok w d) V l
theorem NdK.move {ok : Nat → Prop} {w w' : World} (hm : Same ok w w') : ∀ (d : Nat) (v : Value) (x : Nd), NdK ok w d v x → NdK ok w' d v x
  | 0, _, _, h => h
  | d + 1, v, .lit s, h => h
  | d + 1, v, .place a f, h => by
    obtain ⟨V0, V1, e, h0, h1⟩ := h
    exact ⟨V0, V1, e, RowK.move h0 hm, h1.turn hm⟩
  | d + 1, v, .loop s inn, h => by
    obtain ⟨V, e, h⟩ := h
    exact ⟨V, e, (h.move hm).imp (fun v x _ hv => NdK.move hm d v x hv)⟩
  | d + 1, v, .choice a f y n, h => by
    obtain ⟨V0, V1, V2, V3, e, h0, h1, h2, h3⟩ := h
    exact ⟨V0, V1, V2, V3, e, RowK.move h0 hm, h1.turn hm, (h2.move hm).imp (fun v x _ hv => NdK.move hm d v x hv), (h3.move hm).imp (fun v x _ hv => NdK.move hm d v x hv)⟩
theorem NdsK.move {ok : Nat → Prop} {w w' : World} {d : Nat} {V : Value} {l : List Nd} (h : NdsK ok w d V l) (hm : Same ok w w') : NdsK ok w' d V l := (RowK.move h hm).imp (fun v x _ hv => NdK.move hm d v x hv)
theorem RowK.swap {α : Type} {ok ok' : Nat → Prop} {w : World} {P : Value → α → Prop} {V : Value} {l : List α} (h : RowK ok w P V l) (ho : ∀ k, ok k → k < w.heap.size → ok' k) : RowK ok' w P V l := h.old.mono (fun k hk => ho k hk.1 hk.2)
theorem RowK.swap2 {ok ok' : Nat → Prop} {w : World} {V : Value} {l : List (List Bytes)} (h : RowK ok w (fun v x => SsK ok w v x) V l) (ho : ∀ k, ok k → k < w.heap.size → ok' k) : RowK ok' w (fun v x => SsK ok' w v x) V l := (h.swap ho).imp (fun _ _ _ hv => RowK.swap hv ho)
theorem NdK.swap {ok ok' : Nat → Prop} {w : World} (ho : ∀ k, ok k → k < w.heap.size → ok' k) : ∀ (d : Nat) (v : Value) (x : Nd), NdK ok w d v x → NdK ok' w d v x
  | 0, _, _, h => h
  | d + 1, v, .lit s, h => h
  | d + 1, v, .place a f, h => by
    obtain ⟨V0, V1, e, h0, h1⟩ := h
    exact ⟨V0, V1, e, RowK.swap h0 ho, h1.swap2 ho⟩
  | d + 1, v, .loop s inn, h => by
    obtain ⟨V, e, h⟩ := h
    exact ⟨V, e, (RowK.swap h ho).imp (fun v x _ hv => NdK.swap ho d v x hv)⟩
  | d + 1, v, .choice a f y n, h => by
    obtain ⟨V0, V1, V2, V3, e, h0, h1, h2, h3⟩ := h
    exact ⟨V0, V1, V2, V3, e, RowK.swap h0 ho, h1.swap2 ho, (RowK.swap h2 ho).imp (fun v x _ hv => NdK.swap ho d v x hv), (RowK.swap h3 ho).imp (fun v x _ hv => NdK.swap ho d v x hv)⟩
theorem NdK.up {ok : Nat → Prop} {w : World} : ∀ (d : Nat) (v : Value) (x : Nd), NdK ok w d v x → NdK ok w (d + 1) v x
  | 0, _, _, h => h.elim
  | d + 1, v, .lit s, h => h
  | d + 1, v, .place a f, h => h
  | d + 1, v, .loop s inn, h => by
    obtain ⟨V, e, h⟩ := h
    exact ⟨V, e, h.imp (fun v x _ hv => NdK.up d v x hv)⟩
  | d + 1, v, .choice a f y n, h => by
    obtain ⟨V0, V1, V2, V3, e, h0, h1, h2, h3⟩ := h
    exact ⟨V0, V1, V2, V3, e, h0, h1, h2.imp (fun v x _ hv => NdK.up d v x hv), h3.imp (fun v x _ hv => NdK.up d v x hv)⟩
theorem NdsK.up {ok : Nat → Prop} {w : World} {d : Nat} {V : Value} {l : List Nd} (h : NdsK ok w d V l) : NdsK ok w (d + 1) V l := RowK.imp h (fun v x _ hv => NdK.up d v x hv)

/-- The parser's state at block g, since the world u: nothing else was turned. -/
structure Sk (w0 u w : World) (g : Nat) (l : List Tok) (s : PS) : Prop where
  is : IsS106 w0 w g (l.map toS) s.pos s.deep s.within s.wrong
  bel : Below w0.heap.size w0 w
  keep : KeepBut u w g none
section
variable {w0 u v w w1 : World} {g : Nat} {l : List Tok} {s s1 : PS}
theorem Sk.lt (h : Sk w0 u w g l s) : g < w.heap.size := h.is.lt
theorem Sk.ge (h : Sk w0 u w g l s) : w0.heap.size ≤ g := h.is.ge
theorem Sk.below (h : Sk w0 u w g l s) (hb : Below w.heap.size w w1) : Sk w0 u w1 g l s := ⟨h.is.below hb, h.bel.trans (hb.mono h.bel.size), h.keep.trans (KeepBut.of_below hb g none) (.inl rfl)⟩
theorem Sk.start (h : Sk w0 u w g l s) : Sk w0 w w g l s := ⟨h.is, h.bel, KeepBut.refl w g none⟩
theorem Sk.call (h : Sk w0 u w g l s) (h1 : Sk w0 w w1 g l s1) : Sk w0 u w1 g l s1 := ⟨h1.is, h1.bel, h.keep.trans h1.keep (.inl rfl)⟩
theorem Sk.set_pos (h : Sk w0 u w g l s) (n : Nat) : Sk w0 u (w.setCell ⟨g, 1, none⟩ (.int .i64 n)) g l { s with pos := n } := ⟨h.is.set_1 n, h.bel.setCell h.ge _, h.keep.set_ _ _⟩
theorem Sk.set_deep (h : Sk w0 u w g l s) (n : Nat) : Sk w0 u (w.setCell ⟨g, 2, none⟩ (.int .i64 n)) g l { s with deep := n } := ⟨h.is.set_2 n, h.bel.setCell h.ge _, h.keep.set_ _ _⟩
theorem Sk.set_within (h : Sk w0 u w g l s) (b : Bool) : Sk w0 u (w.setCell ⟨g, 3, none⟩ (.bool b)) g l { s with within := b } := ⟨h.is.set_3 b, h.bel.setCell h.ge _, h.keep.set_ _ _⟩
theorem Sk.far (h : Sk w0 u w g l s) {p : Addr} (hp : u.heap.size ≤ p.block) (h0 : w0.heap.size ≤ p.block) (hne : g ≠ p.block) (x : Value) : Sk w0 u (w.setCell p x) g l s := ⟨h.is.far hne x, h.bel.setCell h0 _, keep_far h.keep hp x⟩
theorem Sk.same (h : Sk w0 u w g l s) : Same (fun k => k ≠ g) u w := fun k hk hlt => h.keep.2 k hlt hk (by simp)
/-- The cells of the parser. -/
theorem Sk.cells (h : Sk w0 u w g l s) : ∃ A c, w.cell? ⟨g, 0, none⟩ = some (.slice A l.length c) ∧ w.cell? ⟨g, 1, none⟩ = some (.int .i64 s.pos) ∧ w.cell? ⟨g, 2, none⟩ = some (.int .i64 s.deep) ∧ w.cell? ⟨g, 3, none⟩ = some (.bool s.within) ∧ w.cell? ⟨g, 4, none⟩ = some (.int .i64 s.wrong) ∧ (∀ j, w.frozen? ⟨g, j, none⟩ = false) ∧ Kd.C k129 w0 A l.length (l.map toS) := by
  obtain ⟨A, c, hb, hg, hC⟩ := h.is
  have e0 := cellS106_0 hb
  rw [List.length_map] at e0 hC
  exact ⟨A, c, e0, cellS106_1 hb, cellS106_2 hb, cellS106_3 hb, cellS106_4 hb, fun j => blk_frozen hb j, hC⟩
end
/-- The blocks of the tokens, and those that are new since w. -/
def okW (w0 w : World) (k : Nat) : Prop := k < w0.heap.size ∨ w.heap.size ≤ k
theorem okW_ne {w0 u w : World} {g : Nat} {l : List Tok} {s : PS} (h : Sk w0 u w g l s) {k : Nat} (hk : okW w0 w k) : k ≠ g := by
  have h1 := h.lt
  have h2 := h.ge
  rcases hk with hk | hk <;> omega
theorem okW_up {w0 w w1 : World} (h : w.heap.size ≤ w1.heap.size) {k : Nat} (hk : okW w0 w1 k) : okW w0 w k := by
  rcases hk with hk | hk
  · exact Or.inl hk
  · exact Or.inr (by omega)
theorem Sk.sameW {w0 u v w w1 : World} {g : Nat} {l : List Tok} {s s1 : PS} (h : Sk w0 u v g l s) (hk : Sk w0 w w1 g l s1) : Same (okW w0 v) w w1 := fun k hk1 hlt => hk.keep.2 k hlt (okW_ne h hk1) (by simp)
/-- What nodes and block give. -/
def NdsPost (w0 w : World) (g : Nat) (l : List Tok) (d : Nat) (r : List Nd × PS) (e : Ending) (w' : World) : Prop :=
  ∃ V, e = .returned V ∧ NdsK (okW w0 w) w' d V r.1 ∧ Sk w0 w w' g l r.2
/-- The contract of nodes with so much fuel. -/
def NdsC (w0 : World) (g : Nat) (l : List Tok) (f : Nat) : Prop :=
  ∀ (w : World) (s : PS), Sk w0 w w g l s → s.pos ≤ l.length → s.deep ≤ 8 → 3 * (l.length - s.pos) + 1 ≤ f → Calls Tryz.prog 71 #[.pointer (some ⟨g, 0, none⟩)] w (NdsPost w0 w g l f (nodesM f l s))
def BlkC (w0 : World) (g : Nat) (l : List Tok) (f : Nat) : Prop :=
  ∀ (w : World) (s : PS) (i : Int), Sk w0 w w g l s → s.pos ≤ l.length → s.deep < 8 → 3 * (l.length - s.pos) + 2 ≤ f → Calls Tryz.prog 116 #[.pointer (some ⟨g, 0, none⟩), .int .i64 i] w (NdsPost w0 w g l f (blockM f l s))
set_option maxRecDepth 100000 in
set_option maxHeartbeats 1000000 in
theorem block_any {w0 : World} {g : Nat} {l : List Tok} {f : Nat} (HN : NdsC w0 g l f) : BlkC w0 g l (f + 1) := by
  intro w s i hS hp hd hf
  obtain ⟨A, c, e0, e1, e2, e3, e4, e5, hC⟩ := hS.cells
  have e52 := e5 2
  have hw1 : IntKind.i64.wrap ((s.deep : Int) + 1) = ((s.deep + 1 : Nat) : Int) := by rw [IntKind.wrap_i64]; omega
  have HC0 := Lib.hid hC
  have HS := Lib.hid hS
  clear e0 e5 hC hS
  go_enter Tryz.func116, Tryz.ntmps116
  go_wp2_with fail
  have hg := parse_goes l f
  refine (HN _ _ ((HS.out.set_deep (s.deep + 1)).start) hp (by simp only; omega) (by simp only; omega)).mono ?_
  rintro e w2 ⟨V, rfl, hV, hS2⟩
  have hS3 := (HS.out.set_deep (s.deep + 1)).call hS2
  obtain ⟨b, hb⟩ : ∃ b, nodesM f l { s with deep := s.deep + 1 } = b := ⟨_, rfl⟩
  have hbd : b.2.deep = s.deep + 1 := by rw [← hb]; exact (hg.1 { s with deep := s.deep + 1 } hp).2.2.1
  have hbl : blockM (f + 1) l s = (b.1, { b.2 with deep := b.2.deep - 1 }) := by rw [blockM, hb]
  rw [hb] at hV hS3
  have HBl := Lib.hid hbl
  have HBd := Lib.hid hbd
  clear hb hbl hg hS2 hbd
  obtain ⟨A2, c2, f0, f1, f2, f3, f4, f5, hC2⟩ := hS3.cells
  have f52 := f5 2
  have hw2 : IntKind.i64.wrap ((b.2.deep : Int) - 1) = ((b.2.deep - 1 : Nat) : Int) := by have := HBd.out; rw [IntKind.wrap_i64]; omega
  have HS3 := Lib.hid hS3
  have HV := Lib.hid hV
  clear f0 f5 hC2 hS3 hV
  go_wp2_with fail
  refine bodyPost_ret (results_tmp rfl _ _ _) rfl ?_
  rw [HBl.out]
  refine ⟨_, rfl, ?_, HS3.out.set_deep (b.2.deep - 1)⟩
  have hv : NdsK (okW w0 w) w2 f V b.1 := by
    have h := HV.out
    have e : (w.setCell ⟨g, 2, none⟩ (.int .i64 ((s.deep + 1 : Nat) : Int))).heap.size = w.heap.size := by simp [World.setCell]
    unfold okW at h ⊢
    rw [e] at h
    exact h
  exact NdsK.up (NdsK.move hv (fun k hk _ => Below.heap_setCell w2 ⟨g, 2, none⟩ _ k (okW_ne HS.out hk)))
end Go.Proofs.YtllhpkpckjacfaaGreatDoor
