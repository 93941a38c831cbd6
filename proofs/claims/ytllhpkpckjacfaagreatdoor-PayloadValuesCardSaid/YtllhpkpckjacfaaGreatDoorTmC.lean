/- template's parser: nodes. -/
import Derived.Test.YtllhpkpckjacfaaGreatDoorTmB
namespace Go.Proofs.YtllhpkpckjacfaaGreatDoor
open Go.RowKit Go.Proofs.YtllhpkpckjacfaaGreatDoorW.PrintWords PTemplateFilters
set_option linter.unusedVariables false
set_option linter.unusedSimpArgs false

theorem tok_at {w0 w : World} {g : Nat} {l : List Tok} {A : Option Addr} (hC : Kd.C k129 w0 A l.length (l.map toS)) (hb : Below w0.heap.size w0 w) (hg : w0.heap.size ≤ g) {i : Nat} (hi : i < l.length) :
    ∃ ad A1 c1, A = some ad ∧ w.cell? (ad.add (i * 3)) = some (.string (str (l.getD i tok0).text)) ∧ w.cell? ⟨(ad.add (i * 3)).block, (ad.add (i * 3)).off + 1, none⟩ = some (.slice A1 (l.getD i tok0).words.length c1) ∧
      w.cell? ⟨(ad.add (i * 3)).block, (ad.add (i * 3)).off + 2, none⟩ = some (.int .i64 ((l.getD i tok0).pos : Nat)) ∧ SsK (fun k => k < w0.heap.size) w (.slice A1 (l.getD i tok0).words.length c1) (l.getD i tok0).words := by
  obtain ⟨ad, A1, c1, e, h0, h1, h2, hl, hK⟩ := at_T129 hC (i : Int) (by omega) (by omega)
  rw [rd_toks l hi] at h0 h1 h2 hl hK
  rw [Int.toNat_natCast] at h0 h1 h2
  have hw : (toS (l.getD i tok0)).f1 = (l.getD i tok0).words.map str := rfl
  rw [hw, List.length_map] at h1 hl hK
  refine ⟨ad, A1, c1, e, pw_cell_below hb h0, pw_cell_below hb h1, pw_cell_below hb h2, ?_⟩
  have hS : SsK (fun _ => True) w0 (.slice A1 (l.getD i tok0).words.length c1) (l.getD i tok0).words := SsK.ofC hl hK (fun _ _ => trivial)
  exact RowK.move (RowK.swap hS (fun k _ hk => hk)) (same_below hb (Nat.le_refl _))
theorem cell_alloc {w : World} {a : Addr} {v : Value} (h : w.cell? a = some v) (o : Obj) : (w.alloc o).cell? a = some v := (World.cell?_alloc_lt w o a (World.block_lt_of_cell? w a h)).trans h
/-- Does a token end a block? -/
def stopB (t : Tok) : Bool := decide (t.words = [wEnd] ∨ t.words = [wElse])
/-- What one gives. -/
def OnePost (w0 w : World) (g : Nat) (l : List Tok) (d : Nat) (r : Option Nd × PS) (e : Ending) (w' : World) : Prop :=
  ∃ v, e = .returned (.tuple #[v, .bool r.1.isSome]) ∧ (∀ x, r.1 = some x → NdK (okW w0 w) w' d v x) ∧ Sk w0 w w' g l r.2
def OneC (w0 : World) (g : Nat) (l : List Tok) (f : Nat) : Prop :=
  ∀ (w : World) (s : PS) (i : Nat) (A : Option Addr) (c : Nat), Sk w0 w w g l s → s.pos ≤ l.length → s.deep ≤ 8 → 3 * (l.length - s.pos) + 3 ≤ f → i < l.length → SsK (fun k => k < w0.heap.size) w (.slice A (l.getD i tok0).words.length c) (l.getD i tok0).words →
    Calls Tryz.prog 91 #[.pointer (some ⟨g, 0, none⟩), .agg #[.string (str (l.getD i tok0).text), .slice A (l.getD i tok0).words.length c, .int .i64 ((l.getD i tok0).pos : Nat)], .int .i64 i] w (OnePost w0 w g l f (oneM f l s (l.getD i tok0) i))
theorem info132 : (Tryz.prog.info? 132).map (fun i => (i.zero, i.size, i.bytes)) = some (some .nilIface, 1, 16) := by kernel_rfl
/-- What the loop keeps. -/
def NdRel (w0 w : World) (g : Nat) (l : List Tok) (F : Nat) (r0 : List Nd × PS) (v3 : Value) (wr : World) : Prop :=
  ∃ (done : List Nd) (s : PS) (f : Nat) (vs : List Value), Sk w0 w wr g l s ∧ s.pos ≤ l.length ∧ s.deep ≤ 8 ∧ 3 * (l.length - s.pos) + 1 ≤ f ∧ f ≤ F ∧ done.length ≤ s.pos ∧ r0.1 = done ++ (nodesM f l s).1 ∧ r0.2 = (nodesM f l s).2 ∧
    wr.ownsRow w.heap.size 132 1 v3 done.length vs ∧ (∀ (j : Nat) (v : Value) (x : Nd), vs[j]? = some v → done[j]? = some x → NdK (fun k => okW w0 w k ∧ some k ≠ v3.ownBlock) wr F v x)
/-- How many tokens are left. -/
def leftM (g : Nat) (n : Nat) (w : World) : Nat := match w.cell? ⟨g, 1, none⟩ with | some (.int _ k) => n - k.toNat | _ => 0
theorem leftM_eq {w0 u w : World} {g : Nat} {l : List Tok} {s : PS} (h : Sk w0 u w g l s) : leftM g l.length w = l.length - s.pos := by
  obtain ⟨A, c, e0, e1, _⟩ := h.cells
  unfold leftM
  rw [e1]
  simp
/-- The token in a block of its own. -/
def NdTok (w0 wr : World) (t : Tok) (v4 : Value) (wc : World) : Prop :=
  ∃ q A c, v4 = .pointer (some ⟨q, 0, none⟩) ∧ wc.heap[q]? = some (.cells #[.string (str t.text), .slice A t.words.length c, .int .i64 (t.pos : Nat)] 129 (0, 0)) ∧ SsK (fun k => k < w0.heap.size) wc (.slice A t.words.length c) t.words ∧ Below wr.heap.size wr wc
theorem NdTok.mk' {w0 wr wq : World} {t : Tok} {A : Option Addr} {c : Nat} (hq : Below wr.heap.size wr wq) (h : SsK (fun k => k < w0.heap.size) wq (.slice A t.words.length c) t.words) : NdTok w0 wr t (.pointer (some ⟨wq.heap.size, 0, none⟩)) (wq.alloc (.cells #[.string (str t.text), .slice A t.words.length c, .int .i64 (t.pos : Nat)] 129)) := by
  have hb : Below wq.heap.size wq (wq.alloc (.cells #[.string (str t.text), .slice A t.words.length c, .int .i64 (t.pos : Nat)] 129)) := below_alloc (Below.refl _ _) _
  exact ⟨wq.heap.size, A, c, rfl, heap_alloc_new wq _, RowK.move h (same_below hb (Nat.le_refl _)), hq.trans (hb.mono hq.size)⟩
theorem NdRel.fin {w0 w wr w1 : World} {g : Nat} {l : List Tok} {F : Nat} {r0 : List Nd × PS} {v3 : Value} {done : List Nd} {s : PS} {vs : List Value} {z : List Nd × PS} (hS : Sk w0 w wr g l s) (h1 : r0.1 = done ++ z.1) (h2 : r0.2 = z.2) (hz : z = ([], s))
    (ho : wr.ownsRow w.heap.size 132 1 v3 done.length vs) (hvs : ∀ (j : Nat) (v : Value) (x : Nd), vs[j]? = some v → done[j]? = some x → NdK (fun k => okW w0 w k ∧ some k ≠ v3.ownBlock) wr F v x) (hb : Below wr.heap.size wr w1) : NdsPost w0 w g l F r0 (.returned v3) w1 := by
  subst hz
  rw [List.append_nil] at h1
  refine ⟨v3, rfl, ?_, by rw [h2]; exact hS.below hb⟩
  rw [h1]
  exact NdsK.move (RowK.of_own ho rfl (fun k hk => Or.inr (own_base ho k hk)) (fun j v x h1 h2 => NdK.swap (fun k hk _ => hk.1) _ _ _ (hvs j v x h1 h2))) (same_below hb (Nat.le_refl _))
/-- One was read. -/
def NdOne (w0 wc : World) (g : Nat) (l : List Tok) (d : Nat) (r : Option Nd × PS) (v5 v6 : Value) (wx : World) : Prop :=
  v6 = .bool r.1.isSome ∧ (∀ x, r.1 = some x → NdK (okW w0 wc) wx d v5 x) ∧ Sk w0 wc wx g l r.2
theorem NdRel.next {w0 w wc : World} {g : Nat} {l : List Tok} {F f : Nat} {r0 : List Nd × PS} {v3 : Value} {done : List Nd} {s : PS} {vs : List Value} {r : Option Nd × PS} (hS : Sk w0 w wc g l r.2) (ho : wc.ownsRow w.heap.size 132 1 v3 done.length vs)
    (hvs : ∀ (j : Nat) (v : Value) (x : Nd), vs[j]? = some v → done[j]? = some x → NdK (fun k => okW w0 w k ∧ some k ≠ v3.ownBlock) wc F v x) (hgo : nodesM (f + 1) l s = (r.1.toList ++ (nodesM f l r.2).1, (nodesM f l r.2).2)) (hr : r0.1 = done ++ (nodesM (f + 1) l s).1 ∧ r0.2 = (nodesM (f + 1) l s).2)
    (hF : f + 1 ≤ F) (hn : s.pos + 1 ≤ r.2.pos ∧ r.2.pos ≤ l.length ∧ r.2.deep ≤ 8 ∧ 3 * (l.length - r.2.pos) + 1 ≤ f) (hdn : done.length ≤ s.pos) (h1 : r.1 = none) : NdRel w0 w g l F r0 v3 wc := by
  rw [hgo, h1] at hr
  obtain ⟨n1, n2, n3, n4⟩ := hn
  exact ⟨done, r.2, f, vs, hS, n2, n3, n4, by omega, by omega, hr.1, hr.2, ho, hvs⟩
theorem NdK.one {ok : Nat → Prop} {w : World} {d : Nat} {v : Value} {x : Nd} (h : NdK ok w d v x) : v.oneCell' = true := by
  cases d with
  | zero => exact h.elim
  | succ d =>
    cases x with
    | lit s => have h : v = _ := h; subst h; rfl
    | place a f => obtain ⟨_, _, rfl, _⟩ := h; rfl
    | loop s inn => obtain ⟨_, rfl, _⟩ := h; rfl
    | choice a f y n => obtain ⟨_, _, _, _, rfl, _⟩ := h; rfl
theorem NdK.iface {ok : Nat → Prop} {w : World} {d : Nat} {v : Value} {x : Nd} (h : NdK ok w d v x) : ∃ T u, v = .iface T u := by
  cases d with
  | zero => exact h.elim
  | succ d =>
    cases x with
    | lit s => exact ⟨_, _, h⟩
    | place a f => obtain ⟨_, _, e, _⟩ := h; exact ⟨_, _, e⟩
    | loop s inn => obtain ⟨_, e, _⟩ := h; exact ⟨_, _, e⟩
    | choice a f y n => obtain ⟨_, _, _, _, e, _⟩ := h; exact ⟨_, _, e⟩
theorem NdK.ups {ok : Nat → Prop} {w : World} {v : Value} {x : Nd} {d F : Nat} (h : NdK ok w d v x) (hd : d ≤ F) : NdK ok w F v x := by
  induction hd with
  | refl => exact h
  | step _ ih => exact NdK.up _ _ _ ih
/-- A row of one's own, behind the state, grows. -/
theorem Sk.own {w0 w wc w3 : World} {g : Nat} {l : List Tok} {s s0 : PS} {v3 : Value} {n : Nat} {vs : List Value} (h : Sk w0 w wc g l s) (h0 : Sk w0 w w g l s0) (ho : wc.ownsRow w.heap.size 132 1 v3 n vs) (hgr : wc.grownBy w3 v3.ownBlock) : Sk w0 w w3 g l s := by
  have hg := h0.lt
  have hge := h0.ge
  have hb : ∀ k, v3.ownBlock = some k → w.heap.size ≤ k := own_base ho
  refine ⟨h.is.grown hgr (fun e => by have := hb g e.symm; omega), pw_below_grown h.bel _ (by have := h.bel.size; omega) hgr (fun k hk => by have := hb k hk; omega), h.keep.trans (KeepBut.of_grown hgr g) ?_⟩
  cases hv : v3.ownBlock with
  | none => exact .inl rfl
  | some b => exact .inr ⟨b, rfl, hb b hv⟩
theorem NdRel.more {w0 w wr wb wc w3 : World} {g : Nat} {l : List Tok} {F f : Nat} {r0 : List Nd × PS} {v1 v3 u5 : Value} {done : List Nd} {s s0 : PS} {vs : List Value} {r : Option Nd × PS} {x : Nd} (h0 : Sk w0 w w g l s0) (hsz : wr.heap.size ≤ wb.heap.size) (hsw0 : w.heap.size ≤ wr.heap.size) (hor : wr.ownsRow w.heap.size 132 1 v3 done.length vs) (hS : Sk w0 w wc g l r.2) (ho : wc.ownsRow w.heap.size 132 1 v3 done.length vs)
    (hvs : ∀ (j : Nat) (v : Value) (x : Nd), vs[j]? = some v → done[j]? = some x → NdK (fun k => okW w0 w k ∧ some k ≠ v3.ownBlock) wc F v x) (hgo : nodesM (f + 1) l s = (r.1.toList ++ (nodesM f l r.2).1, (nodesM f l r.2).2)) (hr : r0.1 = done ++ (nodesM (f + 1) l s).1 ∧ r0.2 = (nodesM (f + 1) l s).2)
    (hF : f + 1 ≤ F) (hn : s.pos + 1 ≤ r.2.pos ∧ r.2.pos ≤ l.length ∧ r.2.deep ≤ 8 ∧ 3 * (l.length - r.2.pos) + 1 ≤ f) (hdn : done.length ≤ s.pos) (hx : r.1 = some x ∧ NdK (okW w0 wb) wc f u5 x)
    (h3 : w3.ownsRow w.heap.size 132 1 v1 (done.length + 1) (vs ++ [u5]) ∧ wc.grownBy w3 v3.ownBlock ∧ (v1.ownBlock = v3.ownBlock ∨ ∃ b, v1.ownBlock = some b ∧ wc.heap.size ≤ b)) : NdRel w0 w g l F r0 v1 w3 := by
  obtain ⟨ho3, hgr, hrow⟩ := h3
  rw [hgo, hx.1] at hr
  obtain ⟨n1, n2, n3, n4⟩ := hn
  have hg := h0.lt
  have hge := h0.ge
  have hlen : vs.length = done.length := by have := ho.1; simpa using this
  have hb : ∀ k, v3.ownBlock = some k → w.heap.size ≤ k ∧ k < wr.heap.size := fun k hk => ⟨own_base hor k hk, by
    rcases hor.2 with ⟨rfl, _⟩ | ⟨b, cap, cur, rfl, _, hh, _⟩
    · simp [Value.ownBlock] at hk
    · have e : b = k := by simpa [Value.ownBlock] using hk
      subst e
      exact blk_lt hh⟩
  have step : ∀ (v : Value) (y : Nd), NdK (fun k => okW w0 w k ∧ some k ≠ v3.ownBlock) wc F v y → NdK (fun k => okW w0 w k ∧ some k ≠ v1.ownBlock) w3 F v y := fun v y h => by
    have a : NdK (fun k => (okW w0 w k ∧ some k ≠ v1.ownBlock) ∧ some k ≠ v3.ownBlock) wc F v y := NdK.swap (fun k hk hlt => ⟨⟨hk.1, by
      rcases hrow with e | ⟨b, e, hb⟩
      · rw [e]; exact hk.2
      · rw [e]; intro e2; injection e2 with e2; omega⟩, hk.2⟩) _ _ _ h
    exact NdK.swap (fun k hk _ => hk.1) _ _ _ (NdK.move (fun k hk hlt => hgr.block k hlt hk.2) _ _ _ a)
  refine ⟨done ++ [x], r.2, f, vs ++ [u5], hS.own h0 ho hgr, n2, n3, n4, by omega, by rw [List.length_append, List.length_singleton]; omega, by rw [hr.1]; simp, hr.2, by rw [List.length_append, List.length_singleton]; exact ho3, fun j v y e1 e2 => ?_⟩
  rcases Nat.lt_trichotomy j done.length with hj | hj | hj
  · rw [List.getElem?_append_left (by omega)] at e1 e2
    exact step v y (hvs j v y e1 e2)
  · subst hj
    rw [List.getElem?_append_right (by omega)] at e1 e2
    simp only [hlen, Nat.sub_self, List.getElem?_cons_zero, Option.some.injEq] at e1 e2
    subst e1 e2
    refine step _ _ ((NdK.swap (fun k hk hlt => ?_) _ _ _ hx.2).ups (by omega))
    refine ⟨?_, fun e => ?_⟩
    · rcases hk with hk | hk
      · exact Or.inl hk
      · refine Or.inr ?_
        omega
    · have := hb k e.symm
      rcases hk with hk | hk <;> omega
  · rw [List.getElem?_append_right (by omega), List.getElem?_eq_none (by simp; omega)] at e2
    cases e2
set_option maxRecDepth 100000 in
set_option maxHeartbeats 800000 in
theorem nodes_any {w0 : World} {g : Nat} {l : List Tok} {F : Nat} (hl : l.length ≤ 100000) (HO : ∀ f, f < F → OneC w0 g l f) : NdsC w0 g l F := by
  intro w s0 hS hp hd hf
  obtain ⟨r0, hr0⟩ : ∃ r, nodesM F l s0 = r := ⟨_, rfl⟩
  rw [hr0]
  have HS0 := Lib.hid hS
  have HR0 := Lib.hid hr0
  clear hS hr0
  go_enter Tryz.func71, Tryz.ntmps71
  go_wp2_with fail
  go_loopw [3] (fun v3 wr => NdRel w0 w g l F r0 v3 wr) (fun _ wr => leftM g l.length wr)
  case atStart =>
    refine ⟨[], s0, F, [], HS0.out, hp, hd, hf, Nat.le_refl _, Nat.zero_le _, by rw [HR0.out]; rfl, by rw [HR0.out], ⟨rfl, Or.inl ⟨rfl, rfl⟩⟩, fun j v x hj => by simp at hj⟩
  case round =>
    obtain ⟨done, s, f, vs, hS, hp1, hd1, hf1, hfF, hdn, hr1, hr2, ho, hvs⟩ := hrel
    obtain ⟨A, c, e0, e1, e2, e3, e4, e5, hC⟩ := hS.cells
    obtain ⟨f, rfl⟩ : ∃ k, f = k + 1 := ⟨f - 1, by omega⟩
    have HS := Lib.hid hS
    have HR := Lib.hid (And.intro hr1 hr2)
    have HO1 := Lib.hid ho
    have HV := Lib.hid hvs
    have HC := Lib.hid hC
    have hlv : leftM g l.length wr = l.length - s.pos := leftM_eq hS
    have HLv := Lib.hid hlv
    clear hS hr1 hr2 ho hvs hC hlv
    by_cases h1 : s.pos < l.length
    · have h1i : decide ((s.pos : Int) < (l.length : Int)) = true := decide_eq_true (by omega)
      by_cases h2 : s.wrong < 0
      · have h2i : decide (s.wrong < (0 : Int)) = true := decide_eq_true h2
        have h3 : (0 : Int) ≤ (s.pos : Int) := by omega
        have h4 : (s.pos : Int) < (l.length : Int) := by omega
        have e51 := e5 1
        clear e5
        go_wp2
        repeat (go_quiet (fail); try go_wp2)
        obtain ⟨ad, A1, c1, rfl, t0, t1, t2, hW⟩ := tok_at HC.out HS.out.bel HS.out.ge h1
        obtain ⟨t, ht⟩ : ∃ t, l.getD s.pos tok0 = t := ⟨_, rfl⟩
        rw [ht] at t0 t1 t2 hW
        obtain ⟨b0, hb0⟩ : ∃ b, str t.text = b := ⟨_, rfl⟩
        obtain ⟨n1, hn1⟩ : ∃ n, t.words.length = n := ⟨_, rfl⟩
        obtain ⟨p2, hp2⟩ : ∃ n, (t.pos : Int) = n := ⟨_, rfl⟩
        have ht1 := t1
        rw [hb0] at t0
        rw [hn1] at t1
        rw [hp2] at t2
        have HW := Lib.hid (And.intro hW (And.intro hb0 (And.intro hn1 hp2)))
        have HT := Lib.hid ht
        clear hW ht hb0 hn1 hp2 ht1
        go_cut [4] (fun v4 wc => NdTok w0 wr t v4 wc)
        case first =>
          refine wp_region_held_drew (S := fun wv : World => wv.cell? ⟨g, 0, none⟩ = some (.slice (some ad) l.length c) ∧ wv.cell? ⟨g, 1, none⟩ = some (.int .i64 s.pos) ∧ wv.cell? (ad.add (s.pos * 3)) = some (.string b0) ∧ wv.cell? ⟨(ad.add (s.pos * 3)).block, (ad.add (s.pos * 3)).off + 1, none⟩ = some (.slice A1 n1 c1) ∧ wv.cell? ⟨(ad.add (s.pos * 3)).block, (ad.add (s.pos * 3)).off + 2, none⟩ = some (.int .i64 p2)) (by kernel_rfl) ⟨e0, e1, t0, t1, t2⟩ (fun hHeld => ?_)
          generalize hwq : World.drew _ = wq at hHeld ⊢
          have HBq : Below wr.heap.size wr wq := by rw [← hwq]; exact below_drew drawn_below
          have hHq := hHeld
          obtain ⟨y0, y1, y2, y3, y4⟩ := hHq
          have hWq : SsK (fun k => k < w0.heap.size) wq (.slice A1 n1 c1) t.words := by have h := HW.out; rw [← h.2.2.1]; exact RowK.move h.1 (same_below HBq (Nat.le_refl _))
          have HWq := Lib.hid hWq
          have HBq2 := Lib.hid HBq
          clear hwq HBq hWq
          refine wpAnyH_take (i := 0) (oi := _) (v := ?_) rfl (by kernel_rfl) (by kernel_rfl) (by kernel_rfl) (fun _ _ _ h => h) (Or.inl ⟨by rfl, ?_⟩) (by assumption) ?_
          rotate_left 1
          · intro w hSw; (try dsimp only at hSw); go_simp; (try with_reducible rfl)
          try simp only [Act.put, List.setIfInBounds_toArray, List.set_cons_zero, List.set_cons_succ, List.getElem_toArray, List.getElem_cons_zero, List.getElem_cons_succ]
          refine wpAnyH_take (i := 1) (oi := _) (v := ?_) rfl (by kernel_rfl) (by kernel_rfl) (by kernel_rfl) (fun _ _ _ h => h) (Or.inl ⟨by rfl, ?_⟩) (by assumption) ?_
          rotate_left 1
          · intro w hSw; (try dsimp only at hSw); go_simp; (try with_reducible rfl)
          try simp only [Act.put, List.setIfInBounds_toArray, List.set_cons_zero, List.set_cons_succ, List.getElem_toArray, List.getElem_cons_zero, List.getElem_cons_succ]
          refine wpAnyH_take (i := 2) (oi := _) (v := ?_) rfl (by kernel_rfl) (by kernel_rfl) (by kernel_rfl) (fun _ _ _ h => h) (Or.inl ⟨by rfl, ?_⟩) (by assumption) ?_
          rotate_left 1
          · intro w hSw; (try dsimp only at hSw); go_simp; (try with_reducible rfl)
          try simp only [Act.put, List.setIfInBounds_toArray, List.set_cons_zero, List.set_cons_succ, List.getElem_toArray, List.getElem_cons_zero, List.getElem_cons_succ]
          refine wpAnyH_take (i := 3) (oi := _) (v := ?_) rfl (by kernel_rfl) (by kernel_rfl) (by kernel_rfl) (fun _ _ _ h => h) (Or.inl ⟨by rfl, ?_⟩) (by assumption) ?_
          rotate_left 1
          · intro w hSw; (try dsimp only at hSw); go_simp; (try with_reducible rfl)
          try simp only [Act.put, List.setIfInBounds_toArray, List.set_cons_zero, List.set_cons_succ, List.getElem_toArray, List.getElem_cons_zero, List.getElem_cons_succ]
          refine wpAnyH_take (i := 4) (oi := _) (v := ?_) rfl (by kernel_rfl) (by kernel_rfl) (by kernel_rfl) (fun _ _ _ h => h) (Or.inl ⟨by rfl, ?_⟩) (by assumption) ?_
          rotate_left 1
          · intro w hSw; (try dsimp only at hSw); go_simp; (try with_reducible rfl)
          try simp only [Act.put, List.setIfInBounds_toArray, List.set_cons_zero, List.set_cons_succ, List.getElem_toArray, List.getElem_cons_zero, List.getElem_cons_succ]
          refine wpAnyH_take (i := 5) (oi := _) (v := ?_) rfl (by kernel_rfl) (by kernel_rfl) (by kernel_rfl) (fun _ _ _ h => h) (Or.inl ⟨by rfl, ?_⟩) (by assumption) ?_
          rotate_left 1
          · intro w hSw; (try dsimp only at hSw); go_simp; (try with_reducible rfl)
          try simp only [Act.put, List.setIfInBounds_toArray, List.set_cons_zero, List.set_cons_succ, List.getElem_toArray, List.getElem_cons_zero, List.getElem_cons_succ]
          refine wpAnyH_take (i := 6) (oi := _) (v := ?_) rfl (by kernel_rfl) (by kernel_rfl) (by kernel_rfl) (fun _ _ _ h => h) (Or.inl ⟨by rfl, ?_⟩) (by assumption) ?_
          rotate_left 1
          · intro w hSw; (try dsimp only at hSw); go_simp; (try with_reducible rfl)
          try simp only [Act.put, List.setIfInBounds_toArray, List.set_cons_zero, List.set_cons_succ, List.getElem_toArray, List.getElem_cons_zero, List.getElem_cons_succ]
          refine wpAnyH_take (i := 7) (oi := _) (v := ?_) rfl (by kernel_rfl) (by kernel_rfl) (by kernel_rfl) (fun _ _ _ h => h) (Or.inl ⟨by rfl, ?_⟩) (by assumption) ?_
          rotate_left 1
          · intro w hSw; (try dsimp only at hSw); go_simp; (try with_reducible rfl)
          try simp only [Act.put, List.setIfInBounds_toArray, List.set_cons_zero, List.set_cons_succ, List.getElem_toArray, List.getElem_cons_zero, List.getElem_cons_succ]
          refine wpAnyH_take (i := 8) (oi := _) (v := ?_) rfl (by kernel_rfl) (by kernel_rfl) (by kernel_rfl) (fun _ _ _ h => h) (Or.inl ⟨by rfl, ?_⟩) (by assumption) ?_
          rotate_left 1
          · intro w hSw; (try dsimp only at hSw); go_simp; (try with_reducible rfl)
          try simp only [Act.put, List.setIfInBounds_toArray, List.set_cons_zero, List.set_cons_succ, List.getElem_toArray, List.getElem_cons_zero, List.getElem_cons_succ]
          refine wpAnyH_take (i := 9) (oi := _) (v := ?_) rfl (by kernel_rfl) (by kernel_rfl) (by kernel_rfl) (fun _ _ _ h => h) (Or.inl ⟨by rfl, ?_⟩) (by assumption) ?_
          rotate_left 1
          · intro w hSw; (try dsimp only at hSw); go_simp; (try with_reducible rfl)
          try simp only [Act.put, List.setIfInBounds_toArray, List.set_cons_zero, List.set_cons_succ, List.getElem_toArray, List.getElem_cons_zero, List.getElem_cons_succ]
          refine wpAnyH_ready (rs := [10]) (by kernel_rfl) (by simp) ?_
          refine AllReadyH.cons (o := _) rfl (fun K hK => ?_) AllReadyH.nil
          go_simp
          refine hK.out _ _ ⟨cell_alloc y0 _, cell_alloc y1 _, cell_alloc y2 _, cell_alloc y3 _, cell_alloc y4 _⟩ (fun hHeld => ?_)
          clear hK K
          refine wpAnyH_ready (rs := [11]) (by kernel_rfl) (by simp) ?_
          refine AllReadyH.cons (o := _) rfl (fun K hK => ?_) AllReadyH.nil
          go_simp
          refine hK.out _ _ ⟨cell_alloc y0 _, cell_alloc y1 _, cell_alloc y2 _, cell_alloc y3 _, cell_alloc y4 _⟩ (fun hHeld => ?_)
          clear hK K
          refine wpAnyH_done (by kernel_rfl) ?_ _
          go_wp2
          go_meet
          case rel =>
            obtain ⟨_, rfl, rfl, rfl⟩ := HW.out
            exact NdTok.mk' HBq2.out HWq.out
        case rest =>
          obtain ⟨q, A2, c2, rfl, hq, hS4, hb4⟩ := hcut
          have q0 : wc.cell? ⟨q, 0, none⟩ = some (.string (str t.text)) := (blk_cell hq 0).trans rfl
          have q1 : wc.cell? ⟨q, 1, none⟩ = some (.slice A2 t.words.length c2) := (blk_cell hq 1).trans rfl
          have q2 : wc.cell? ⟨q, 2, none⟩ = some (.int .i64 (t.pos : Nat)) := (blk_cell hq 2).trans rfl
          have HSc := Lib.hid (HS.out.below hb4)
          have HS4 := Lib.hid hS4
          have HB4 := Lib.hid hb4
          have HQ := Lib.hid (show wc.heap[q]? = some (.cells #[.string (str t.text), .slice A2 t.words.length c2, .int .i64 (t.pos : Nat)] 129 (0, 0)) from hq)
          clear hq hS4 hb4
          go_upto_region 4 with (fail)
          go_cut [51] (fun v51 wx => v51 = .bool (stopB t) ∧ wx = wc)
          case first =>
            by_cases hl1 : t.words.length = 1
            · obtain ⟨a, ha⟩ := List.length_eq_one_iff.1 hl1
              obtain ⟨ad9, c9, v9, hA9, _, hc9, rfl⟩ := HS4.out.at (j := 0) (by omega)
              injection hA9 with hA9 _ _
              subst hA9
              have hc9' : wc.cell? ad9 = some (.string (str a)) := by
                have h : t.words[0]'(by omega) = a := by simp [ha]
                rw [h, Addr.add_zero'] at hc9
                exact hc9
              have hcn : 1 ≤ c2 := by
                obtain ⟨_, _, hx, hy⟩ := HS4.out.form
                injection hx with _ _ hx
                omega
              have hl1i : (t.words.length : Int) = 1 := by omega
              have hst : stopB t = (decide (a = wEnd) || decide (a = wElse)) := by simp [stopB, ha]
              clear hc9
              rw [hl1] at q1
              by_cases hE : a = wEnd
              · have hb1 : ((str a).toList == [101, 110, 100]) = true := by rw [str_tl, hE]; rfl
                have hst2 : stopB t = true := by rw [hst, hE]; rfl
                clear hst hE ha
                go_wp2
                go_meet
                case rel => exact ⟨by rw [hst2], rfl⟩
              · have hb1 : ((str a).toList == [101, 110, 100]) = false := by rw [str_tl, beq_eq_false_iff_ne]; exact hE
                by_cases hL : a = wElse
                · have hb2 : ((str a).toList == [101, 108, 115, 101]) = true := by rw [str_tl, hL]; rfl
                  have hst2 : stopB t = true := by rw [hst, hL]; rfl
                  clear hst hE hL ha
                  go_wp2
                  go_meet
                  case rel => exact ⟨by rw [hst2], rfl⟩
                · have hb2 : ((str a).toList == [101, 108, 115, 101]) = false := by rw [str_tl, beq_eq_false_iff_ne]; exact hL
                  have hst2 : stopB t = false := by rw [hst, decide_eq_false hE, decide_eq_false hL]; rfl
                  clear hst hE hL ha
                  go_wp2
                  go_meet
                  case rel => exact ⟨by rw [hst2], rfl⟩
            · have hl1i : ((t.words.length : Int) == 1) = false := by rw [beq_eq_false_iff_ne]; omega
              have hst2 : stopB t = false := by
                unfold stopB
                refine decide_eq_false (fun h => hl1 ?_)
                rcases h with h | h <;> rw [h] <;> rfl
              go_wp2
              go_meet
              case rel => exact ⟨by rw [hst2], rfl⟩
          case rest =>
            obtain ⟨rfl, rfl⟩ := hcut
            cases hst : stopB t
            · obtain ⟨A5, c5, g0, g1, g2, g3, g4, g5, hC5⟩ := HSc.out.cells
              have g51 := g5 1
              have hne : g ≠ q := HSc.out.is.ne_blk HQ.out (by decide)
              have hne2 : ¬ q = g := fun e => hne e.symm
              have hw1 : IntKind.i64.wrap ((s.pos : Int) + 1) = ((s.pos + 1 : Nat) : Int) := by rw [IntKind.wrap_i64]; omega
              have HSt := Lib.hid hst
              clear g0 g5 hC5 hst
              go_upto_region 7 with (fail)
              generalize hW2 : World.setCell wc _ _ = W2
              have hS5 : Sk w0 wc W2 g l { s with pos := s.pos + 1 } := by rw [← hW2]; exact HSc.out.start.set_pos (s.pos + 1)
              have p0 : W2.cell? ⟨q, 0, none⟩ = some (.string (str t.text)) := by rw [← hW2, World.cell?_setCell_far _ _ _ _ hne]; exact q0
              have p1 : W2.cell? ⟨q, 1, none⟩ = some (.slice A2 t.words.length c2) := by rw [← hW2, World.cell?_setCell_far _ _ _ _ hne]; exact q1
              have p2 : W2.cell? ⟨q, 2, none⟩ = some (.int .i64 (t.pos : Nat)) := by rw [← hW2, World.cell?_setCell_far _ _ _ _ hne]; exact q2
              obtain ⟨A6, c6, k0, k1, k2, k3, k4, k5, hC6⟩ := hS5.cells
              have hw2 : IntKind.i64.wrap (s.pos : Int) = (s.pos : Int) := by rw [IntKind.wrap_i64]; omega
              have hgw0 : w0.heap.size ≤ g := HS.out.ge
              have hW5 : SsK (fun k => k < w0.heap.size) W2 (.slice A2 t.words.length c2) t.words := RowK.move HS4.out (fun k hk hlt => hS5.same k (show k ≠ g by omega) hlt)
              have hone := HO f (by omega) W2.drew { s with pos := s.pos + 1 } s.pos A2 c2 ((hS5.below (below_drew (Below.refl _ _))).start) h1 hd1 (by simp only; omega) h1 (by rw [HT.out]; exact RowK.move hW5 (fun k _ _ => rfl))
              rw [HT.out] at hone
              have HOne := Lib.hid hone
              have HS5 := Lib.hid hS5
              clear hone hS5 hW5 hW2 k0 k5 hC6
              go_cut [5, 6] (fun v5 v6 wx => NdOne w0 wc g l f (oneM f l { s with pos := s.pos + 1 } t s.pos) v5 v6 wx)
              case first =>
                go_region_with (first | (go_at_call 91; (with_reducible refine HOne.out.mono ?_); rintro e w5 ⟨v9, rfl, hv9, hs9⟩))
                all_goals
                  go_wp2
                  go_meet
                  case rel => exact ⟨rfl, (fun x hx => NdK.swap (fun k hk _ => okW_up (w1 := W2.drew) HS5.out.keep.1 hk) _ _ _ (hv9 x hx)), (HS5.out.below (below_drew (Below.refl _ _))).call hs9⟩
              case rest =>
                obtain ⟨hv6, hv5, hs⟩ := hcut
                have hgo : nodesM (f + 1) l s = ((oneM f l { s with pos := s.pos + 1 } t s.pos).1.toList ++ (nodesM f l (oneM f l { s with pos := s.pos + 1 } t s.pos).2).1, (nodesM f l (oneM f l { s with pos := s.pos + 1 } t s.pos).2).2) := by
                  rw [nodesM, if_pos ⟨h1, h2⟩, if_neg (by rw [HT.out]; exact of_decide_eq_false HSt.out), HT.out]
                have hgoes := (parse_goes l f).2.1 { s with pos := s.pos + 1 } t s.pos h1
                obtain ⟨r, hr⟩ : ∃ r, oneM f l { s with pos := s.pos + 1 } t s.pos = r := ⟨_, rfl⟩
                rw [hr] at hv6 hv5 hs hgo hgoes
                obtain ⟨hg1, hg2, hg3, hg4, hg5⟩ := hgoes
                have hkk : KeepBut wr wc g none := (KeepBut.of_below HB4.out g none).trans hs.keep (.inl rfl)
                have ho2 : wc.ownsRow w.heap.size 132 1 u3 done.length vs := hkk.own HO1.out (fun e => by have := own_base HO1.out g e; have := HS0.out.lt; omega) (Classical.em _)
                have hvs2 : ∀ (j : Nat) (v : Value) (x : Nd), vs[j]? = some v → done[j]? = some x → NdK (fun k => okW w0 w k ∧ some k ≠ u3.ownBlock) wc F v x := fun j v x e1 e2 => NdK.move (fun k hk hlt => hkk.2 k hlt (okW_ne HS0.out hk.1) (by simp)) _ _ _ (HV.out j v x e1 e2)
                have HSw := Lib.hid (HSc.out.call hs)
                have HO2 := Lib.hid ho2
                have HV2 := Lib.hid hvs2
                have HV5 := Lib.hid hv5
                have HGo := Lib.hid hgo
                have HNum := Lib.hid (show s.pos + 1 ≤ r.2.pos ∧ r.2.pos ≤ l.length ∧ r.2.deep ≤ 8 ∧ 3 * (l.length - r.2.pos) + 1 ≤ f from ⟨hg1, hg2, by rw [hg3]; exact hd1, by simp only at hg1; omega⟩)
                clear ho2 hvs2 hv5 hgo hs hkk hg1 hg2 hg3 hg4 hg5 hr
                cases hr1 : r.1 with
                | none =>
                  rw [hr1] at hv6
                  have hv6' : u6 = .bool false := hv6
                  subst hv6'
                  have HR1 := Lib.hid hr1
                  clear hr1 hv6
                  go_wp2
                  go_roundw
                  case rel => exact NdRel.next HSw.out HO2.out HV2.out HGo.out HR.out hfF HNum.out hdn HR1.out
                  case measure => rw [leftM_eq HSw.out, HLv.out]; have := HNum.out; omega
                | some x =>
                  rw [hr1] at hv6
                  have hv6' : u6 = .bool true := hv6
                  subst hv6'
                  have HX := Lib.hid (And.intro hr1 (HV5.out x hr1))
                  obtain ⟨T5, z5, rfl⟩ := NdK.iface HX.out.2
                  clear hr1 hv6
                  obtain ⟨A3, c3, rfl⟩ := own_slice HO2.out
                  go_wp2_with (first | ((with_reducible refine gate_builtin (b := .append) (xs := #[.tmp 72, .tmp 74]) rfl ?_); at_builtin; refine print_append_cells (w0 := wc) (W := wc) w.heap.size rfl (.tmp 72) (.tmp 74) 107 132 .nilIface 1 16 rfl Tryz.underlying107 info132 rfl (by decide) (by omega) (.slice A3 done.length c3) done.length vs [.iface T5 z5] rfl rfl rfl ?aU ?aO ?aB ?aS ?aL ?_))
                  case aU => rfl
                  case aO => exact HO2.out
                  case aB => exact Below.refl _ _
                  case aS => exact HSw.out.keep.1
                  case aL => omega
                  intro v1 w3 ho3 _ hgr3 hrow3
                  have H3 := Lib.hid (And.intro ho3 (And.intro hgr3 hrow3))
                  clear ho3 hgr3 hrow3
                  go_wp2
                  go_roundw
                  case rel => exact NdRel.more HS0.out HB4.out.size HS.out.keep.1 HO1.out HSw.out HO2.out HV2.out HGo.out HR.out hfF HNum.out hdn HX.out H3.out
                  case measure => rw [leftM_eq (HSw.out.own HS0.out HO2.out H3.out.2.1), HLv.out]; have := HNum.out; omega
            · have hz : nodesM (f + 1) l s = ([], s) := by rw [nodesM, if_pos ⟨h1, h2⟩, if_pos (by rw [HT.out]; exact of_decide_eq_true hst)]
              go_wp2
              go_ret
              exact NdRel.fin HS.out HR.out.1 HR.out.2 hz HO1.out HV.out HB4.out
      · have h2i : decide (s.wrong < (0 : Int)) = false := decide_eq_false h2
        clear e5
        go_wp2
        repeat (go_quiet (fail); try go_wp2)
        have hz : nodesM (f + 1) l s = ([], s) := by rw [nodesM, if_neg (by omega)]
        go_ret
        exact NdRel.fin HS.out HR.out.1 HR.out.2 hz HO1.out HV.out (by first | exact drawn_below | exact drawn_below (n := 1) | exact Below.refl _ _)
    · have h1i : decide ((s.pos : Int) < (l.length : Int)) = false := decide_eq_false (by omega)
      clear e5
      go_wp2
      repeat (go_quiet (fail); try go_wp2)
      have hz : nodesM (f + 1) l s = ([], s) := by rw [nodesM, if_neg (fun h => h1 h.1)]
      go_ret
      exact NdRel.fin HS.out HR.out.1 HR.out.2 hz HO1.out HV.out (by first | exact drawn_below | exact drawn_below (n := 1) | exact Below.refl _ _)
end Go.Proofs.YtllhpkpckjacfaaGreatDoor
