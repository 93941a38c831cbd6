/- template's parser: one token, and what begins with it. -/
import Derived.Test.YtllhpkpckjacfaaGreatDoorTmC
namespace Go.Proofs.YtllhpkpckjacfaaGreatDoor
open Go.RowKit Go.Proofs.YtllhpkpckjacfaaGreatDoorW.PrintWords PTemplateFilters
set_option linter.unusedVariables false
set_option linter.unusedSimpArgs false

/-- Does a token begin a loop? -/
def rangeB (t : Tok) (s : PS) : Bool := decide (t.words.length = 2 ∧ t.words.getD 0 [] = wRange ∧ listM (t.words.getD 1 []) = true ∧ s.within = false ∧ s.deep < 8)
theorem words_at {ok : Nat → Prop} {w : World} {A : Option Addr} {n c : Nat} {ws : List Bytes} (h : SsK ok w (.slice A n c) ws) {a : Bytes} {r : List Bytes} (hw : ws = a :: r) : ∃ ad, A = some ad ∧ w.cell? ad = some (.string (str a)) ∧ ∀ b, r = [b] → w.cell? ⟨ad.block, ad.off + 1, none⟩ = some (.string (str b)) := by
  subst hw
  obtain ⟨ad, c0, v, e, _, hc, rfl⟩ := h.at (j := 0) (by simp)
  injection e with e _ _
  refine ⟨ad, e, by rw [Addr.add_zero'] at hc; exact hc, fun b hb => ?_⟩
  subst hb
  obtain ⟨ad2, c2, v2, e2, _, hc2, rfl⟩ := h.at (j := 1) (by simp)
  injection e2 with e2 _ _
  rw [e] at e2
  injection e2 with e2
  subst e2
  have : ad.add 1 = ⟨ad.block, ad.off + 1, none⟩ := by unfold Addr.add; rw [if_neg (by omega)]
  rw [this] at hc2
  exact hc2
theorem NdsK.swap {ok ok' : Nat → Prop} {w : World} {d : Nat} {V : Value} {l : List Nd} (h : NdsK ok w d V l) (ho : ∀ k, ok k → k < w.heap.size → ok' k) : NdsK ok' w d V l := (RowK.swap h ho).imp (fun v x _ hv => NdK.swap ho _ _ _ hv)
theorem one_end {w0 w w5 : World} {g : Nat} {l : List Tok} {d : Nat} {cl : Bool × PS} {x : Nd} {v : Value} (hv : cl.1 = true → NdK (okW w0 w) w5 d v x) (hS : Sk w0 w w5 g l cl.2) : OnePost w0 w g l d ((if cl.1 = true then some x else none), cl.2) (.returned (.tuple #[v, .bool cl.1])) w5 := by
  obtain ⟨b, s⟩ := cl
  cases b
  · exact ⟨v, rfl, fun y hy => by simp at hy, hS⟩
  · exact ⟨v, rfl, fun y hy => by simp at hy; subst hy; exact hv rfl, hS⟩
/-- A place's value in a block of its own. -/
def PlBox (ok : Nat → Prop) (W : World) (ws : List Bytes) (v : Value) (wx : World) : Prop :=
  ∃ q V0 V1, v = .pointer (some ⟨q, 0, none⟩) ∧ W.heap.size ≤ q ∧ wx.heap[q]? = some (.cells #[V0, V1] 163 (0, 0)) ∧ SsK ok wx V0 (barsM ws).1 ∧ RowK ok wx (fun v x => SsK ok wx v x) V1 (barsM ws).2 ∧ Below W.heap.size W wx
theorem PlBox.mk' {ok : Nat → Prop} {W w2 : World} {ws : List Bytes} {V0 V1 : Value} (hb : Below W.heap.size W w2) (h0 : SsK ok w2 V0 (barsM ws).1) (h1 : RowK ok w2 (fun v x => SsK ok w2 v x) V1 (barsM ws).2) : PlBox ok W ws (.pointer (some ⟨w2.heap.size, 0, none⟩)) (w2.alloc (.cells #[V0, V1] 163)) := by
  have hb2 : Below w2.heap.size w2 (w2.alloc (.cells #[V0, V1] 163)) := below_alloc (Below.refl _ _) _
  have hm : Same ok w2 (w2.alloc (.cells #[V0, V1] 163)) := same_below hb2 (Nat.le_refl _)
  exact ⟨w2.heap.size, V0, V1, rfl, hb.size, heap_alloc_new w2 _, RowK.move h0 hm, h1.turn hm, hb.trans (hb2.mono hb.size)⟩
theorem read_W {w0 u w : World} {g : Nat} {l : List Tok} {s : PS} (hS : Sk w0 u w g l s) {V : Value} {ws : List Bytes} (hV : SsK (fun k => k < w0.heap.size) w V ws) (hl : ws.length ≤ 4097) (hm : ∀ b ∈ ws, b.length ≤ 1000000) :
    Calls Tryz.prog 118 #[.pointer (some ⟨g, 0, none⟩), V] w (RdPost (okW w0 w) w ws s.within (okM ws s.within)) :=
  read_any hS.is (RowK.mono hV (fun k hk => Or.inl hk)) hl (fun k hk => Or.inr hk) hm
theorem one_tail {f : Nat} {l : List Tok} {s : PS} {t : Tok} {i : Nat} {a : Bytes} {r : List Bytes} (hw : t.words = a :: r) (h1 : ¬ (t.words.length = 2 ∧ t.words.getD 0 [] = wRange ∧ listM (t.words.getD 1 []) = true ∧ s.within = false ∧ s.deep < 8)) (h2 : ¬ (a = wIf ∧ s.deep < 8 ∧ okM r s.within = true)) : oneM (f + 1) l s t i = placeM l s t.words i := by
  rw [oneM, hw]
  rw [hw] at h1
  simp only [List.length_cons, List.getD_cons_zero, List.getD_cons_succ] at h1 ⊢
  rw [if_neg (fun h => h1 ⟨by omega, h.1, h.2.2.1, h.2.2.2.1, h.2.2.2.2⟩), if_neg h2]
/-- A choice in a block of its own. -/
def ChBox (w0 Wy : World) (g : Nat) (l : List Tok) (f : Nat) (V0 V1 : Value) (ys ns : List Nd) (s' : PS) (v : Value) (wx : World) : Prop :=
  ∃ p V2 V3, v = .pointer (some ⟨p, 0, none⟩) ∧ Wy.heap.size ≤ p ∧ wx.heap[p]? = some (.cells #[V0, V1, V2, V3] 167 (0, 0)) ∧ NdsK (fun k => okW w0 Wy k ∧ k ≠ p) wx f V2 ys ∧ NdsK (fun k => okW w0 Wy k ∧ k ≠ p) wx f V3 ns ∧ Sk w0 Wy wx g l s'
/-- The choice is made behind its block. -/
theorem ChBox.behind {w0 Wy w5 : World} {g : Nat} {l : List Tok} {f : Nat} {V0 V1 V2 : Value} {ys : List Nd} {s' : PS} (hv : NdsK (okW w0 Wy) w5 f V2 ys) (hS : Sk w0 Wy w5 g l s') : ChBox w0 Wy g l f V0 V1 ys [] s' (.pointer (some ⟨w5.heap.size, 0, none⟩)) (w5.alloc (.cells #[V0, V1, V2, .slice none 0 0] 167)) := by
  have hb : Below w5.heap.size w5 (w5.alloc (.cells #[V0, V1, V2, .slice none 0 0] 167)) := below_alloc (Below.refl _ _) _
  exact ⟨w5.heap.size, V2, .slice none 0 0, rfl, hS.keep.1, heap_alloc_new w5 _, NdsK.move (NdsK.swap hv (fun k hk hlt => ⟨hk, by omega⟩)) (same_below hb (Nat.le_refl _)), RowK.empty _ _ _ _ _, hS.below hb⟩
/-- The choice's block is made ahead of it. -/
theorem ChBox.ahead {w0 Wy Wa w5 : World} {g p : Nat} {l : List Tok} {f : Nat} {V0 V1 V2 : Value} {ys : List Nd} {s' : PS} (hv : NdsK (okW w0 Wa) w5 f V2 ys) (hS : Sk w0 Wy w5 g l s') (hp : Wy.heap.size ≤ p) (hza : Wa.heap.size = p + 1) (hpg : g ≠ p) (hw0 : w0.heap.size ≤ Wy.heap.size)
    (pk : w5.heap[p]? = some (.cells #[.slice none 0 0, .slice none 0 0, .slice none 0 0, .slice none 0 0] 167 (0, 0))) : ChBox w0 Wy g l f V0 V1 ys [] s' (.pointer (some ⟨p, 0, none⟩)) ((((w5.setCell ⟨p, 0, none⟩ V0).setCell ⟨p, 1, none⟩ V1).setCell ⟨p, 2, none⟩ V2).setCell ⟨p, 3, none⟩ (.slice none 0 0)) := by
  have hv' : NdsK (fun k => okW w0 Wy k ∧ k ≠ p) w5 f V2 ys := NdsK.swap hv (fun k hk _ => ⟨okW_up (by omega) hk, by rcases hk with hk | hk <;> omega⟩)
  refine ⟨p, V2, .slice none 0 0, rfl, hp, ?_, NdsK.move hv' (fun k hk _ => ?_), RowK.empty _ _ _ _ _, (((hS.far hp (by show w0.heap.size ≤ p; omega) hpg _).far hp (by show w0.heap.size ≤ p; omega) hpg _).far hp (by show w0.heap.size ≤ p; omega) hpg _).far hp (by show w0.heap.size ≤ p; omega) hpg _⟩
  · simpa using blk_set (blk_set (blk_set (blk_set pk 0 V0) 1 V1) 2 V2) 3 (.slice none 0 0)
  · have h1 : ∀ (W : World) (j : Nat) (v : Value), (W.setCell ⟨p, j, none⟩ v).heap[k]? = W.heap[k]? := fun W j v => Below.heap_setCell W ⟨p, j, none⟩ v k hk.2
    rw [h1, h1, h1, h1]
theorem ch_end {w0 w Wz Wy Wf w5 : World} {g p : Nat} {l : List Tok} {f : Nat} {V0 V1 V2 V3 : Value} {a : List Bytes} {fl : List (List Bytes)} {ys ns : List Nd} {sz sy sf : PS} {c9 : Bool × PS} (hSz : Sk w0 w Wz g l sz) (hSy : Sk w0 w Wy g l sy) (hsz : Wz.heap.size ≤ Wy.heap.size) (h0 : SsK (okW w0 Wz) Wy V0 a) (h1 : RowK (okW w0 Wz) Wy (fun v x => SsK (okW w0 Wz) Wy v x) V1 fl)
    (hSf : Sk w0 Wy Wf g l sf) (hv2 : NdsK (fun k => okW w0 Wy k ∧ k ≠ p) Wf f V2 ys) (hv3 : NdsK (fun k => okW w0 Wy k ∧ k ≠ p) Wf f V3 ns) (hS5 : Sk w0 Wf w5 g l c9.2) :
    OnePost w0 w g l (f + 1) ((if c9.1 = true then some (.choice a fl ys ns) else none), c9.2) (.returned (.tuple #[.iface 167 (.agg #[V0, V1, V2, V3]), .bool c9.1])) w5 := by
  have hSy5 := hSf.call hS5
  have hm := hSz.sameW hSy5
  have hm2 : Same (okW w0 Wy) Wf w5 := hSy.sameW hS5
  refine one_end (fun _ => ?_) (hSy.call hSy5)
  have up : ∀ k, okW w0 Wz k → okW w0 w k := fun k hk => okW_up hSz.keep.1 hk
  have up2 : ∀ k, okW w0 Wy k → okW w0 w k := fun k hk => okW_up hSy.keep.1 hk
  exact ⟨V0, V1, V2, V3, rfl, RowK.mono (RowK.move h0 hm) up, (RowK.mono (h1.turn hm) up).imp (fun v x _ hv => RowK.mono hv up),
    NdsK.swap (NdsK.move (NdsK.swap hv2 (ok' := okW w0 Wy) (fun k hk _ => hk.1)) hm2) (fun k hk _ => up2 k hk), NdsK.swap (NdsK.move (NdsK.swap hv3 (ok' := okW w0 Wy) (fun k hk _ => hk.1)) hm2) (fun k hk _ => up2 k hk)⟩
/-- Does a token begin a choice, by its first word? -/
def ifB (a : Bytes) (s : PS) : Bool := decide (a = wIf ∧ s.deep < 8)
theorem close_any {w0 w : World} {g : Nat} {l : List Tok} {s : PS} (hl : l.length ≤ 100000) (h : Sk w0 w w g l s) {i : Nat} (hi : i < l.length) : Calls Tryz.prog 117 #[.pointer (some ⟨g, 0, none⟩), .int .i64 i] w fun e w' => e = .returned (.bool (closeM l s i).1) ∧ Sk w0 w w' g l (closeM l s i).2 := by
  refine (template_parser_close.calls g _ _ _ _ _ _ _ _ _ _ _ w0 w h.is h.bel (close_f l s hl hi)).mono ?_
  rintro e w' ⟨h1, h2, h3, h4⟩
  exact ⟨h1, h2, h3, h4⟩
theorem next_any {w0 w : World} {g : Nat} {l : List Tok} {s : PS} (hl : l.length ≤ 100000) (h : Sk w0 w w g l s) (word : Bytes) : Calls Tryz.prog 119 #[.pointer (some ⟨g, 0, none⟩), .string (str word)] w fun e w' => e = .returned (.bool (nextM l s word).1) ∧ Sk w0 w w' g l (nextM l s word).2 := by
  refine (template_parser_next.calls g _ _ _ _ _ _ _ _ _ _ _ w0 w h.is h.bel (next_f l s hl word)).mono ?_
  rintro e w' ⟨h1, h2, h3, h4⟩
  exact ⟨h1, h2, h3, h4⟩
theorem fail_any {w0 w : World} {g : Nat} {l : List Tok} {s : PS} (h : Sk w0 w w g l s) {i : Nat} (hi : i < l.length) : Calls Tryz.prog 72 #[.pointer (some ⟨g, 0, none⟩), .int .i64 i] w fun e w' => e = .returned (.tuple #[]) ∧ Sk w0 w w' g l (failM l s i) := by
  refine (template_parser_fail.calls g _ _ _ _ _ _ _ _ _ _ w0 w h.is h.bel (fail_f l s hi)).mono ?_
  rintro e w' ⟨h1, h2, h3, h4⟩
  exact ⟨h1, h2, h3, h4⟩
set_option maxRecDepth 100000 in
set_option maxHeartbeats 800000 in
theorem one_any {w0 : World} {g : Nat} {l : List Tok} {f : Nat} (hl : l.length ≤ 100000) (hW : ∀ i, i < l.length → (l.getD i tok0).words.length ≤ 4096 ∧ ∀ b ∈ (l.getD i tok0).words, b.length ≤ 1000000) (HB : BlkC w0 g l f) : OneC w0 g l (f + 1) := by
  intro w s i A c hS hp hd hf hi hV
  have hWi := hW i hi
  obtain ⟨r0, hr0⟩ : ∃ r, oneM (f + 1) l s (l.getD i tok0) i = r := ⟨_, rfl⟩
  rw [hr0]
  obtain ⟨t, ht⟩ : ∃ t, l.getD i tok0 = t := ⟨_, rfl⟩
  rw [ht] at hV hWi hr0 ⊢
  have HT := Lib.hid ht
  have HR := Lib.hid hr0
  have HS0 := Lib.hid hS
  have HV0 := Lib.hid hV
  have HWi := Lib.hid hWi
  have hcl : t.words.length ≤ c := by obtain ⟨_, _, e, h⟩ := hV.form; injection e with _ _ e; omega
  clear ht hr0 hS hV hWi hW
  obtain ⟨ws, hw⟩ : ∃ ws, t.words = ws := ⟨_, rfl⟩
  cases ws with
  | nil =>
    have hr : r0 = (some (.lit t.text), s) := by rw [← HR.out, oneM, hw]
    subst hr
    go_enter Tryz.func91, Tryz.ntmps91
    go_wp2_with fail
    refine bodyPost_ret (results_tmp2 rfl _ _ _) rfl ⟨_, rfl, fun x hx => ?_, HS0.out.below (below_alloc (Below.refl _ _) _)⟩
    injection hx with hx
    subst hx
    rfl
  | cons a r =>
    have hn0 : ((t.words.length : Int) == 0) = false := by rw [hw, beq_eq_false_iff_ne]; simp; omega
    have HWd := Lib.hid hw
    clear hw
    go_enter Tryz.func91, Tryz.ntmps91
    go_upto_region 4 with (fail)
    generalize hW1 : w.alloc _ = W1
    have HB1 := Lib.hid (show Below w.heap.size w W1 by rw [← hW1]; exact below_alloc (Below.refl _ _) _)
    have HS1 := Lib.hid (HS0.out.below HB1.out)
    have HV1 := Lib.hid (RowK.move HV0.out (same_below HB1.out (Nat.le_refl _)))
    clear hW1
    obtain ⟨A5, c5, g0, g1, g2, g3, g4, g5, hC5⟩ := HS1.out.cells
    obtain ⟨ad, hA, x0, x1⟩ := words_at HV1.out HWd.out
    subst hA
    clear g0 g5 hC5
    go_cut [24] (fun v24 wx => v24 = .bool (rangeB t s) ∧ ∃ n, wx = W1.drewN n)
    case first =>
      by_cases hl2 : r.length = 1
      · obtain ⟨b, rfl⟩ := List.length_eq_one_iff.1 hl2
        have hn2 : (t.words.length : Int) = 2 := by rw [HWd.out]; simp
        have hx1 := x1 b rfl
        have hc2 : 2 ≤ c := by rw [HWd.out] at hcl; simpa using hcl
        have hli := template_list.calls (str b) (listM b) W1 (list_f b)
        have HLi := Lib.hid hli
        clear hli x1
        by_cases ha : a = wRange
        · have hb1 : ((str a).toList == [114, 97, 110, 103, 101]) = true := by rw [str_tl, ha]; rfl
          by_cases hd8 : s.deep < 8
          · have hd8i : decide ((s.deep : Int) < 8) = true := decide_eq_true (by omega)
            cases hlb : listM b
            · have HRb := Lib.hid (show rangeB t s = false by unfold rangeB; rw [HWd.out]; simp [hlb])
              clear ha
              go_wp2_with (first | (go_at_call 115; (refine HLi.out.mono ?_); rintro e w2 ⟨rfl, nd, rfl⟩))
              go_meet
              case rel => exact ⟨by rw [HRb.out], _, rfl⟩
            · cases hwi : s.within
              · have HRb := Lib.hid (show rangeB t s = true by unfold rangeB; rw [HWd.out]; simp [hlb, hwi, ha, hd8])
                clear ha
                go_wp2_with (first | (go_at_call 115; (refine HLi.out.mono ?_); rintro e w2 ⟨rfl, nd, rfl⟩))
                go_meet
                case rel => exact ⟨by rw [HRb.out], _, rfl⟩
              · have HRb := Lib.hid (show rangeB t s = false by unfold rangeB; rw [HWd.out]; simp [hwi])
                clear ha
                go_wp2_with (first | (go_at_call 115; (refine HLi.out.mono ?_); rintro e w2 ⟨rfl, nd, rfl⟩))
                go_meet
                case rel => exact ⟨by rw [HRb.out], _, rfl⟩
          · have hd8i : decide ((s.deep : Int) < 8) = false := decide_eq_false (by omega)
            have HRb := Lib.hid (show rangeB t s = false by unfold rangeB; simp [hd8])
            clear ha
            cases hlb : listM b
            · go_wp2_with (first | (go_at_call 115; (refine HLi.out.mono ?_); rintro e w2 ⟨rfl, nd, rfl⟩))
              go_meet
              case rel => exact ⟨by rw [HRb.out], _, rfl⟩
            · cases hwi : s.within
              · go_wp2_with (first | (go_at_call 115; (refine HLi.out.mono ?_); rintro e w2 ⟨rfl, nd, rfl⟩))
                go_meet
                case rel => exact ⟨by rw [HRb.out], _, rfl⟩
              · go_wp2_with (first | (go_at_call 115; (refine HLi.out.mono ?_); rintro e w2 ⟨rfl, nd, rfl⟩))
                go_meet
                case rel => exact ⟨by rw [HRb.out], _, rfl⟩
        · have hb1 : ((str a).toList == [114, 97, 110, 103, 101]) = false := by rw [str_tl, beq_eq_false_iff_ne]; exact ha
          have HRb := Lib.hid (show rangeB t s = false by unfold rangeB; rw [HWd.out]; simp [ha])
          go_wp2
          go_meet
          case rel => exact ⟨by rw [HRb.out], 0, rfl⟩
      · have hn2 : ((t.words.length : Int) == 2) = false := by rw [HWd.out, beq_eq_false_iff_ne]; simp; omega
        have HRb := Lib.hid (show rangeB t s = false by unfold rangeB; rw [HWd.out]; simp [hl2])
        go_wp2
        go_meet
        case rel => exact ⟨by rw [HRb.out], 0, rfl⟩
    case rest =>
      obtain ⟨rfl, n2, rfl⟩ := hcut
      have HSz := Lib.hid (HS1.out.below (drawn_below (n := n2)))
      have HVz := Lib.hid (RowK.move HV1.out (w' := W1.drewN n2) (fun k _ _ => rfl))
      generalize W1.drewN n2 = Wz at HSz HVz x0 x1 g1 g2 g3 g4 ⊢
      obtain ⟨ad', hA', x0, x1⟩ := words_at HVz.out HWd.out
      injection hA' with hA'
      subst hA'
      obtain ⟨A6, c6, k0, k1, k2, k3, k4, k5, hC6⟩ := HSz.out.cells
      have k53 := k5 3
      clear k0 k5 hC6 g1 g2 g3 g4
      cases hrb : rangeB t s
      · have hrf := of_decide_eq_false hrb
        go_upto_region 9 with (fail)
        have HRf := Lib.hid hrf
        clear hrf hrb
        go_cut [72] (fun v72 wx => v72 = .bool (ifB a s) ∧ wx = Wz)
        case first =>
          have hcw : 1 ≤ c := by rw [HWd.out] at hcl; simp at hcl; omega
          have hlw : (0 : Int) < (t.words.length : Int) := by rw [HWd.out]; simp
          by_cases ha : a = wIf
          · have hb1 : ((str a).toList == [105, 102]) = true := by rw [str_tl, ha]; rfl
            by_cases hd8 : s.deep < 8
            · have HRb := Lib.hid (show ifB a s = true from decide_eq_true ⟨ha, hd8⟩)
              have hd8i : decide ((s.deep : Int) < 8) = true := decide_eq_true (by omega)
              clear ha
              go_wp2
              go_meet
              case rel => exact ⟨by rw [HRb.out], rfl⟩
            · have HRb := Lib.hid (show ifB a s = false from decide_eq_false (fun h => hd8 h.2))
              have hd8i : decide ((s.deep : Int) < 8) = false := decide_eq_false (by omega)
              clear ha
              go_wp2
              go_meet
              case rel => exact ⟨by rw [HRb.out], rfl⟩
          · have hb1 : ((str a).toList == [105, 102]) = false := by rw [str_tl, beq_eq_false_iff_ne]; exact ha
            have HRb := Lib.hid (show ifB a s = false from decide_eq_false (fun h => ha h.1))
            go_wp2
            go_meet
            case rel => exact ⟨by rw [HRb.out], rfl⟩
        case rest =>
          obtain ⟨rfl, hwx⟩ := hcut
          rw [hwx]
          clear hwx
          cases hib : ifB a s
          · have HIb := Lib.hid hib
            have HRd := Lib.hid (read_W HSz.out HVz.out (by have := HWi.out.1; omega) HWi.out.2)
            have HNif := Lib.hid (show ¬ (a = wIf ∧ s.deep < 8 ∧ okM r s.within = true) from fun h => (of_decide_eq_false hib) ⟨h.1, h.2.1⟩)
            clear hib

            go_upto_region 16 with (fail)
            go_cut [13, 14] (fun v13 v14 wx => v14 = .bool (okM t.words s.within) ∧ PlBox (okW w0 Wz) Wz t.words v13 wx)
            case first =>
              go_wp2_with (first | (go_at_call 118; (refine HRd.out.mono ?_); rintro e w2 ⟨V0, V1, rfl, hb, h0, h1⟩; obtain ⟨B0, d0, rfl, hd0⟩ := h0.form; obtain ⟨B1, d1, rfl, hd1⟩ := h1.form))
              go_meet
              case rel => exact ⟨rfl, PlBox.mk' hb h0 h1⟩
            case rest =>
              obtain ⟨rfl, q, V0, V1, rfl, hq9, hqb, h0, h1, hb⟩ := hcut
              have y0 : wc.cell? ⟨q, 0, none⟩ = some V0 := (blk_cell hqb 0).trans rfl
              have y1 : wc.cell? ⟨q, 1, none⟩ = some V1 := (blk_cell hqb 1).trans rfl
              obtain ⟨B0, d0, rfl, hd0⟩ := h0.form
              obtain ⟨B1, d1, rfl, hd1⟩ := h1.form
              have hSx := HSz.out.below hb
              have HSx := Lib.hid hSx
              have hqg : q ≠ g := by have := HSz.out.lt; omega
              have HB := Lib.hid (And.intro hqb (And.intro h0 h1))
              have HFl := Lib.hid (fail_any hSx.start hi)
              have hszx : w.heap.size ≤ Wz.heap.size := HSz.out.keep.1
              clear hSx hqb h0 h1 hb
              cases hok : okM t.words s.within
              · have HOk := Lib.hid hok
                clear hok
                go_wp2_with (first | (go_at_call 72; (refine HFl.out.mono ?_); rintro e w5 ⟨rfl, hs5⟩; have y2 := keep_cell hs5.keep y0 hqg; have y3 := keep_cell hs5.keep y1 hqg))
                refine bodyPost_ret (results_tmp2 rfl _ _ _) rfl ?_
                rw [← HR.out, one_tail HWd.out HRf.out HNif.out, placeM, if_neg (by rw [HOk.out]; simp)]
                refine ⟨_, rfl, fun x hx => ?_, HSx.out.call hs5⟩
                cases hx
              · have HOk := Lib.hid hok
                clear hok
                go_wp2
                refine bodyPost_ret (results_tmp2 rfl _ _ _) rfl ?_
                rw [← HR.out, one_tail HWd.out HRf.out HNif.out, placeM, if_pos HOk.out]
                refine ⟨_, rfl, fun x hx => ?_, HSx.out⟩
                injection hx with hx
                subst hx
                exact ⟨_, _, rfl, RowK.mono HB.out.2.1 (fun k hk => okW_up hszx hk), (RowK.mono HB.out.2.2 (fun k hk => okW_up hszx hk)).imp (fun v x _ hv => RowK.mono hv (fun k hk => okW_up hszx hk))⟩
          · obtain ⟨ha, hd8⟩ := of_decide_eq_true hib
            have HIf := Lib.hid (And.intro ha hd8)
            clear hib ha
            go_upto_region 10 with (fail)
            go_cut [10, 11] (fun v10 v11 wx => v11 = .bool (okM r s.within) ∧ PlBox (okW w0 Wz) Wz r v10 wx)
            case first =>
              have hlr : t.words.length = r.length + 1 := by rw [HWd.out]; rfl
              have HLr := Lib.hid hlr
              have hcw : 1 ≤ c := by omega
              have hlw : (1 : Int) ≤ (t.words.length : Int) := by omega
              clear hlr
              have hlc : (t.words.length : Int) ≤ (c : Int) := by omega
              by_cases hc1 : c = 1
              · subst hc1
                have hn1 : t.words.length = 1 := by omega
                have hr1 : r = [] := by rw [HWd.out] at hn1; simpa using hn1
                have HRd := Lib.hid (read_W HSz.out (V := .slice (some ad) 0 0) (ws := r) (by rw [hr1]; exact RowK.empty _ _ _ _ _) (by rw [hr1]; simp) (by rw [hr1]; simp))
                have hd1 : t.words.length - 1 = 0 := by omega
                clear hr1 hn1
                go_wp2_with (first | (go_at_call 118; (refine HRd.out.mono ?_); rintro e w2 ⟨V0, V1, rfl, hb, h0, h1⟩; obtain ⟨B0, d0, rfl, hd0⟩ := h0.form; obtain ⟨B1, d1, rfl, hd1⟩ := h1.form))
                go_meet
                case rel => exact ⟨rfl, PlBox.mk' hb h0 h1⟩
              · have hc1i : ¬ (c : Int) = 1 := by omega
                have hVr := SsK.after HVz.out (i := 0) (by omega)
                rw [if_neg (by omega), show t.words.drop (0 + 1) = r by rw [HWd.out]; rfl] at hVr
                have HRd := Lib.hid (read_W HSz.out hVr (by have := HWi.out.1; have := HLr.out; omega) (fun b hb => HWi.out.2 b (by rw [HWd.out]; exact List.mem_cons_of_mem _ hb)))
                clear hVr
                go_wp2_with (first | (go_at_call 118; (refine HRd.out.mono ?_); rintro e w2 ⟨V0, V1, rfl, hb, h0, h1⟩; obtain ⟨B0, d0, rfl, hd0⟩ := h0.form; obtain ⟨B1, d1, rfl, hd1⟩ := h1.form))
                go_meet
                case rel => exact ⟨rfl, PlBox.mk' hb h0 h1⟩
            case rest =>
              generalize wc = Wy at hcut ⊢
              obtain ⟨rfl, q, V0, V1, rfl, hq9, hqb, h0, h1, hb⟩ := hcut
              have HSy := Lib.hid (HSz.out.below hb)
              have HVy := Lib.hid (RowK.move HVz.out (same_below hb (Nat.le_refl _)))
              have HPl := Lib.hid (And.intro hqb (And.intro h0 h1))
              have HBy := Lib.hid hb
              clear hqb h0 h1 hb x0 x1 k1 k2 k3 k4 k53
              cases hok : okM r s.within
              · have HRd := Lib.hid (read_W HSy.out HVy.out (by have := HWi.out.1; omega) HWi.out.2)
                have HNif := Lib.hid (show ¬ (a = wIf ∧ s.deep < 8 ∧ okM r s.within = true) from fun h => by rw [hok] at h; exact absurd h.2.2 (by simp))
                clear hok

                go_upto_region 16 with (fail)
                go_cut [13, 14] (fun v13 v14 wx => v14 = .bool (okM t.words s.within) ∧ PlBox (okW w0 Wy) Wy t.words v13 wx)
                case first =>
                  go_wp2_with (first | (go_at_call 118; (refine HRd.out.mono ?_); rintro e w2 ⟨V0, V1, rfl, hb, h0, h1⟩; obtain ⟨B0, d0, rfl, hd0⟩ := h0.form; obtain ⟨B1, d1, rfl, hd1⟩ := h1.form))
                  go_meet
                  case rel => exact ⟨rfl, PlBox.mk' hb h0 h1⟩
                case rest =>
                  obtain ⟨rfl, q, V0, V1, rfl, hq9, hqb, h0, h1, hb⟩ := hcut
                  have y0 : wc.cell? ⟨q, 0, none⟩ = some V0 := (blk_cell hqb 0).trans rfl
                  have y1 : wc.cell? ⟨q, 1, none⟩ = some V1 := (blk_cell hqb 1).trans rfl
                  obtain ⟨B0, d0, rfl, hd0⟩ := h0.form
                  obtain ⟨B1, d1, rfl, hd1⟩ := h1.form
                  have hSx := HSy.out.below hb
                  have HSx := Lib.hid hSx
                  have hqg : q ≠ g := by have := HSy.out.lt; omega
                  have HB := Lib.hid (And.intro hqb (And.intro h0 h1))
                  have HFl := Lib.hid (fail_any hSx.start hi)
                  have hszx : w.heap.size ≤ Wy.heap.size := HSy.out.keep.1
                  clear hSx hqb h0 h1 hb
                  cases hok : okM t.words s.within
                  · have HOk := Lib.hid hok
                    clear hok
                    go_wp2_with (first | (go_at_call 72; (refine HFl.out.mono ?_); rintro e w5 ⟨rfl, hs5⟩; have y2 := keep_cell hs5.keep y0 hqg; have y3 := keep_cell hs5.keep y1 hqg))
                    refine bodyPost_ret (results_tmp2 rfl _ _ _) rfl ?_
                    rw [← HR.out, one_tail HWd.out HRf.out HNif.out, placeM, if_neg (by rw [HOk.out]; simp)]
                    refine ⟨_, rfl, fun x hx => ?_, HSx.out.call hs5⟩
                    cases hx
                  · have HOk := Lib.hid hok
                    clear hok
                    go_wp2
                    refine bodyPost_ret (results_tmp2 rfl _ _ _) rfl ?_
                    rw [← HR.out, one_tail HWd.out HRf.out HNif.out, placeM, if_pos HOk.out]
                    refine ⟨_, rfl, fun x hx => ?_, HSx.out⟩
                    injection hx with hx
                    subst hx
                    exact ⟨_, _, rfl, RowK.mono HB.out.2.1 (fun k hk => okW_up hszx hk), (RowK.mono HB.out.2.2 (fun k hk => okW_up hszx hk)).imp (fun v x _ hv => RowK.mono hv (fun k hk => okW_up hszx hk))⟩
              · skip
                obtain ⟨ha, hd8⟩ := HIf.out
                have hr0 : ∀ b n e c9, blockM f l s = b → (if b.2.wrong < 0 then nextM l b.2 wElse else (false, b.2)) = n → (if n.1 = true then blockM f l n.2 else ([], n.2)) = e → closeM l e.2 i = c9 → r0 = (if c9.1 = true then some (.choice (barsM r).1 (barsM r).2 b.1 e.1) else none, c9.2) := by
                  rintro b n e c9 rfl rfl rfl rfl
                  rw [← HR.out, oneM, HWd.out]
                  have h1 := HRf.out
                  rw [HWd.out] at h1
                  simp only [List.length_cons, List.getD_cons_zero, List.getD_cons_succ] at h1
                  dsimp only
                  rw [if_neg (fun h => h1 ⟨by omega, h.1, h.2.2.1, h.2.2.2.1, h.2.2.2.2⟩), if_pos ⟨ha, hd8, hok⟩]
                have HR0 := Lib.hid hr0
                have y0 : Wy.cell? ⟨q, 0, none⟩ = some V0 := (blk_cell HPl.out.1 0).trans rfl
                have y1 : Wy.cell? ⟨q, 1, none⟩ = some V1 := (blk_cell HPl.out.1 1).trans rfl
                obtain ⟨B0, d0, rfl, hd0⟩ := HPl.out.2.1.form
                obtain ⟨B1, d1, rfl, hd1⟩ := HPl.out.2.2.form
                have hqg : q ≠ g := by have := HSz.out.lt; omega
                obtain ⟨b9, hb9⟩ : ∃ b9, blockM f l s = b9 := ⟨_, rfl⟩
                have HB9 := Lib.hid hb9
                clear hr0 hok ha hb9
                go_upto_region 12 with (fail)
                go_cut [12] (fun v12 wx => ChBox w0 Wy g l f (.slice B0 (barsM r).1.length d0) (.slice B1 (barsM r).2.length d1) b9.1 [] b9.2 v12 wx)
                case first =>
                  refine wp_region_held_drew (S := fun wv : World => wv.cell? ⟨q, 0, none⟩ = some (.slice B0 (barsM r).1.length d0) ∧ wv.cell? ⟨q, 1, none⟩ = some (.slice B1 (barsM r).2.length d1)) (by kernel_rfl) ⟨y0, y1⟩ (fun hHeld => ?_)
                  have hSq : Sk w0 Wy Wy.drew g l s := HSy.out.start.below (below_drew (Below.refl _ _))
                  generalize hwq : World.drew Wy = Wq at hHeld hSq ⊢
                  have hzq : Wq.heap.size = Wy.heap.size := by rw [← hwq]; rfl
                  have hHq := hHeld
                  obtain ⟨z0, z1⟩ := hHq
                  have HSq := Lib.hid hSq
                  have hbl := HB Wq s i hSq.start hp hd8 (by omega)
                  rw [HB9.out] at hbl
                  have HBl := Lib.hid hbl
                  clear hbl
                  clear hSq hwq
                  refine wpAnyH_take (i := 0) (oi := _) (v := ?_) rfl (by kernel_rfl) (by kernel_rfl) (by kernel_rfl) (fun _ _ _ h => h) (Or.inl ⟨by rfl, ?_⟩) (by assumption) ?_
                  rotate_left 1
                  · intro w hSw; (try dsimp only at hSw); go_simp; (try with_reducible rfl)
                  try simp only [Act.put, List.setIfInBounds_toArray, List.set_cons_zero, List.set_cons_succ, List.getElem_toArray, List.getElem_cons_zero, List.getElem_cons_succ]
                  refine wpAnyH_take (i := 1) (oi := _) (v := ?_) rfl (by kernel_rfl) (by kernel_rfl) (by kernel_rfl) (fun _ _ _ h => h) (Or.inl ⟨by rfl, ?_⟩) (by assumption) ?_
                  rotate_left 1
                  · intro w hSw; (try dsimp only at hSw); go_simp; (try with_reducible rfl)
                  try simp only [Act.put, List.setIfInBounds_toArray, List.set_cons_zero, List.set_cons_succ, List.getElem_toArray, List.getElem_cons_zero, List.getElem_cons_succ]
                  refine wpAnyH_take (i := 2) (oi := _) (v := ?_) rfl (by kernel_rfl) (by kernel_rfl) (by kernel_rfl) (fun _ _ _ h => h) (Or.inl ⟨by rfl, ?_⟩) (by assumption) ?_
                  rotate_left 1
                  · intro w hSw; (try dsimp only at hSw); go_simp; (try with_reducible rfl)
                  try simp only [Act.put, List.setIfInBounds_toArray, List.set_cons_zero, List.set_cons_succ, List.getElem_toArray, List.getElem_cons_zero, List.getElem_cons_succ]
                  refine wpAnyH_ready (rs := [3, 5]) (by kernel_rfl) (by simp) ?_
                  refine AllReadyH.cons (o := _) rfl (fun K hK => ?_) (AllReadyH.cons (o := _) rfl (fun K hK => ?_) AllReadyH.nil)
                  · go_simp
                    refine HBl.out.mono ?_
                    rintro e w5 ⟨V2, rfl, hv2, hs5⟩
                    obtain ⟨B2, d2, rfl, hd2⟩ := hv2.form
                    have u0 := keep_cell hs5.keep z0 hqg
                    have u1 := keep_cell hs5.keep z1 hqg
                    have H5 := Lib.hid (And.intro hv2 hs5)
                    clear hv2 hs5 hHeld
                    refine hK.out _ _ ⟨u0, u1⟩ (fun hHeld => ?_)
                    clear hK K
                    refine wpAnyH_take (i := 4) (oi := _) (v := ?_) rfl (by kernel_rfl) (by kernel_rfl) (by kernel_rfl) (fun _ _ _ h => h) (Or.inl ⟨by rfl, ?_⟩) (by assumption) ?_
                    rotate_left 1
                    · intro w hSw; (try dsimp only at hSw); go_simp; (try with_reducible rfl)
                    try simp only [Act.put, List.setIfInBounds_toArray, List.set_cons_zero, List.set_cons_succ, List.getElem_toArray, List.getElem_cons_zero, List.getElem_cons_succ]
                    refine wpAnyH_ready (rs := [5]) (by kernel_rfl) (by simp) ?_
                    refine AllReadyH.cons (o := _) rfl (fun K hK => ?_) AllReadyH.nil
                    go_simp
                    refine hK.out _ _ ⟨cell_alloc u0 _, cell_alloc u1 _⟩ (fun hHeld => ?_)
                    clear hK K
                    refine wpAnyH_ready (rs := [6]) (by kernel_rfl) (by simp) ?_
                    refine AllReadyH.cons (o := _) rfl (fun K hK => ?_) AllReadyH.nil
                    go_simp
                    refine hK.out _ _ ⟨cell_alloc u0 _, cell_alloc u1 _⟩ (fun hHeld => ?_)
                    clear hK K
                    refine wpAnyH_done (by kernel_rfl) ?_ _
                    go_wp2
                    go_meet
                    case rel =>
                      refine ChBox.behind (NdsK.swap H5.out.1 (fun k hk _ => ?_)) (HSq.out.call H5.out.2)
                      exact okW_up (by omega) hk
                  · go_simp
                    have hpg : g ≠ Wq.heap.size := fun e => by have := HSq.out.lt; omega
                    have hqp : q < Wq.heap.size := World.block_lt_of_cell? Wq _ z0
                    have hb := heap_alloc_new Wq (.cells #[.slice none 0 0, .slice none 0 0, .slice none 0 0, .slice none 0 0] 167)
                    have hSa := HSq.out.below (below_alloc (Below.refl _ _) (.cells #[.slice none 0 0, .slice none 0 0, .slice none 0 0, .slice none 0 0] 167))
                    have hza : (Wq.alloc (.cells #[.slice none 0 0, .slice none 0 0, .slice none 0 0, .slice none 0 0] 167)).heap.size = Wq.heap.size + 1 := by simp
                    refine hK.out _ _ ⟨cell_alloc z0 _, cell_alloc z1 _⟩ (fun hHeld => ?_)
                    clear hK K
                    have z0 := cell_alloc z0 (.cells #[.slice none 0 0, .slice none 0 0, .slice none 0 0, .slice none 0 0] 167)
                    have z1 := cell_alloc z1 (.cells #[.slice none 0 0, .slice none 0 0, .slice none 0 0, .slice none 0 0] 167)
                    generalize Wq.alloc (.cells #[.slice none 0 0, .slice none 0 0, .slice none 0 0, .slice none 0 0] 167) = Wa at hb hSa hza z0 z1 hHeld ⊢
                    rw [hzq] at hpg hqp hb hza
                    obtain ⟨p, hpq⟩ : ∃ p, Wy.heap.size = p := ⟨_, rfl⟩
                    have hpy : Wy.heap.size ≤ p := by omega
                    rw [hpq] at hpg hqp hb hza hzq ⊢
                    have HPy := Lib.hid hpy
                    have hbl := HB Wa s i hSa.start hp hd8 (by omega)
                    rw [HB9.out] at hbl
                    have HBa := Lib.hid hbl
                    have HSa := Lib.hid hSa
                    have HBb := Lib.hid hb
                    have hpq2 : ¬ p = q := by omega
                    clear hbl hSa hpq hb hpy
                    refine wpAnyH_ready (rs := [3]) (by kernel_rfl) (by simp) ?_
                    refine AllReadyH.cons (o := _) rfl (fun K hK => ?_) AllReadyH.nil
                    go_simp
                    refine HBa.out.mono ?_
                    rintro e w5 ⟨V2, rfl, hv2, hs5⟩
                    obtain ⟨B2, d2, rfl, hd2⟩ := hv2.form
                    have u0 := keep_cell hs5.keep z0 hqg
                    have u1 := keep_cell hs5.keep z1 hqg
                    have pk := hs5.keep.blk HBb.out (fun e => hpg e.symm) (by simp)
                    have p0 : w5.cell? ⟨p, 0, none⟩ = some (.slice none 0 0) := (blk_cell pk 0).trans rfl
                    have p1 : w5.cell? ⟨p, 1, none⟩ = some (.slice none 0 0) := (blk_cell pk 1).trans rfl
                    have p2 : w5.cell? ⟨p, 2, none⟩ = some (.slice none 0 0) := (blk_cell pk 2).trans rfl
                    have p3 : w5.cell? ⟨p, 3, none⟩ = some (.slice none 0 0) := (blk_cell pk 3).trans rfl
                    have f0 := blk_frozen pk 0
                    have f1 := blk_frozen pk 1
                    have f2 := blk_frozen pk 2
                    have f3 := blk_frozen pk 3
                    have H5 := Lib.hid (And.intro hv2 (And.intro hs5 pk))
                    clear hv2 hs5 pk hHeld
                    refine hK.out _ _ ⟨u0, u1⟩ (fun hHeld => ?_)
                    clear hK K
                    refine wpAnyH_take (i := 4) (oi := _) (v := ?_) rfl (by kernel_rfl) (by kernel_rfl) (by kernel_rfl) (fun _ _ _ h => h) (Or.inl ⟨by rfl, ?_⟩) (by assumption) ?_
                    rotate_left 1
                    · intro w hSw; (try dsimp only at hSw); go_simp; (try with_reducible rfl)
                    try simp only [Act.put, List.setIfInBounds_toArray, List.set_cons_zero, List.set_cons_succ, List.getElem_toArray, List.getElem_cons_zero, List.getElem_cons_succ]
                    refine wpAnyH_ready (rs := [6]) (by kernel_rfl) (by simp) ?_
                    refine AllReadyH.cons (o := _) rfl (fun K hK => ?_) AllReadyH.nil
                    go_simp
                    refine hK.out _ _ ⟨by simp [World.cell?_setCell_far, *], by simp [World.cell?_setCell_far, *]⟩ (fun hHeld => ?_)
                    clear hK K
                    refine wpAnyH_done (by kernel_rfl) ?_ _
                    go_wp2
                    go_meet
                    case rel => exact ChBox.ahead H5.out.1 (HSa.out.call H5.out.2.1) HPy.out hza hpg HSy.out.bel.size H5.out.2.2
                case rest =>
                  generalize wc = Wc at hcut ⊢
                  have hcut0 := hcut
                  obtain ⟨p, V2, V3, rfl, hpy, hpb, hv2, hv3, hSc⟩ := hcut0
                  have HCh0 := Lib.hid hcut
                  have hgb := (parse_goes l f).2.2 s hp
                  rw [HB9.out] at hgb
                  have HGb := Lib.hid hgb
                  obtain ⟨n, hn⟩ : ∃ n, (if b9.2.wrong < 0 then nextM l b9.2 wElse else (false, b9.2)) = n := ⟨_, rfl⟩
                  have HN := Lib.hid hn
                  have hgn : Goes l b9.2 n.2 := by
                    rw [← hn]
                    split
                    · exact next_goes hgb.2.1 _
                    · exact Goes.refl hgb.2.1
                  have HGn := Lib.hid (hgb.trans hgn)
                  have HSc := Lib.hid hSc
                  obtain ⟨A7, c7, m0, m1, m2, m3, m4, m5, hC7⟩ := hSc.cells
                  clear hcut hv2 hv3 hSc hn hgn hgb m0 m5 hC7 hpb
                  go_upto_region 13 with (fail)
                  go_cut [106] (fun v106 wx => v106 = .bool n.1 ∧ Sk w0 Wc wx g l n.2)
                  case first =>
                    by_cases hwr : b9.2.wrong < 0
                    · have hwi : decide (b9.2.wrong < (0 : Int)) = true := decide_eq_true hwr
                      have hnx := next_any hl HSc.out.start wElse
                      have hn := HN.out
                      rw [if_pos hwr] at hn
                      rw [hn] at hnx
                      have HNx := Lib.hid hnx
                      clear hnx hn
                      go_wp2_with (first | (go_at_call 119; (refine HNx.out.mono ?_); rintro e w5 ⟨rfl, hs5⟩))
                      go_meet
                      case rel => exact ⟨rfl, hs5⟩
                    · have hwi : decide (b9.2.wrong < (0 : Int)) = false := decide_eq_false hwr
                      have hn := HN.out
                      rw [if_neg hwr] at hn
                      have HN2 := Lib.hid hn
                      clear hn
                      go_wp2
                      go_meet
                      case rel => rw [← HN2.out]; exact ⟨rfl, HSc.out.start⟩
                  case rest =>
                    generalize wc = Wn at hcut ⊢
                    obtain ⟨rfl, hSn⟩ := hcut
                    have hch : ChBox w0 Wy g l f (.slice B0 (barsM r).1.length d0) (.slice B1 (barsM r).2.length d1) b9.1 [] n.2 (.pointer (some ⟨p, 0, none⟩)) Wn := by
                      obtain ⟨p', V2, V3, hpe, hpy, hpb, hv2, hv3, hSc⟩ := HCh0.out
                      injection hpe with hpe
                      injection hpe with hpe
                      injection hpe with hpe
                      subst hpe
                      have hpg : p ≠ g := by have := HSy.out.lt; omega
                      have hm : Same (fun k => okW w0 Wy k ∧ k ≠ p) Wc Wn := fun k hk hlt => hSn.keep.2 k hlt (okW_ne HSy.out hk.1) (by simp)
                      exact ⟨p, V2, V3, rfl, hpy, hSn.keep.blk hpb hpg (by simp), NdsK.move hv2 hm, NdsK.move hv3 hm, hSc.call hSn⟩
                    have HCh1 := Lib.hid hch
                    clear hch m1 m2 m3 m4
                    cases hn1 : n.1
                    · have HE := Lib.hid (show (if n.1 = true then blockM f l n.2 else ([], n.2)) = (([], n.2) : List Nd × PS) by rw [hn1]; rfl)
                      have HCh := HCh1
                      clear hn1
                      obtain ⟨p', V2, V3, hpe, hpy, hpb, hv2, hv3, hSc⟩ := HCh.out
                      injection hpe with hpe
                      injection hpe with hpe
                      injection hpe with hpe
                      subst hpe
                      obtain ⟨B2, d2, rfl, hd2⟩ := hv2.form
                      obtain ⟨B3, d3, rfl, hd3⟩ := hv3.form
                      have p0 := (blk_cell hpb 0).trans rfl
                      have p1 := (blk_cell hpb 1).trans rfl
                      have p2 := (blk_cell hpb 2).trans rfl
                      have p3 := (blk_cell hpb 3).trans rfl
                      have hpg : p ≠ g := by have := HSy.out.lt; omega
                      have hcl := close_any hl (hSc.start.below (below_drew (Below.refl _ _))).start hi
                      have HCl := Lib.hid hcl
                      have HCc := Lib.hid (And.intro hv2 (And.intro hv3 hSc))
                      clear hcl hpb hv2 hv3 hSc
                      go_upto_region 15 with (fail)
                      refine wp_region_held_drew (S := fun wv : World => wv.cell? ⟨p, 0, none⟩ = some (.slice B0 (barsM r).1.length d0) ∧ wv.cell? ⟨p, 1, none⟩ = some (.slice B1 (barsM r).2.length d1) ∧ wv.cell? ⟨p, 2, none⟩ = some (.slice B2 b9.1.length d2) ∧ wv.cell? ⟨p, 3, none⟩ = some (.slice B3 ([] : List Nd).length d3)) (by kernel_rfl) ⟨p0, p1, p2, p3⟩ (fun hHeld => ?_)
                      refine wpAnyH_take (i := 0) (oi := _) (v := ?_) rfl (by kernel_rfl) (by kernel_rfl) (by kernel_rfl) (fun _ _ _ h => h) (Or.inl ⟨by rfl, ?_⟩) (by assumption) ?_
                      rotate_left 1
                      · intro w hSw; (try dsimp only at hSw); go_simp; (try with_reducible rfl)
                      try simp only [Act.put, List.setIfInBounds_toArray, List.set_cons_zero, List.set_cons_succ, List.getElem_toArray, List.getElem_cons_zero, List.getElem_cons_succ]
                      refine wpAnyH_take (i := 1) (oi := _) (v := ?_) rfl (by kernel_rfl) (by kernel_rfl) (by kernel_rfl) (fun _ _ _ h => h) (Or.inl ⟨by rfl, ?_⟩) (by assumption) ?_
                      rotate_left 1
                      · intro w hSw; (try dsimp only at hSw); go_simp; (try with_reducible rfl)
                      try simp only [Act.put, List.setIfInBounds_toArray, List.set_cons_zero, List.set_cons_succ, List.getElem_toArray, List.getElem_cons_zero, List.getElem_cons_succ]
                      refine wpAnyH_take (i := 2) (oi := _) (v := ?_) rfl (by kernel_rfl) (by kernel_rfl) (by kernel_rfl) (fun _ _ _ h => h) (Or.inl ⟨by rfl, ?_⟩) (by assumption) ?_
                      rotate_left 1
                      · intro w hSw; (try dsimp only at hSw); go_simp; (try with_reducible rfl)
                      try simp only [Act.put, List.setIfInBounds_toArray, List.set_cons_zero, List.set_cons_succ, List.getElem_toArray, List.getElem_cons_zero, List.getElem_cons_succ]
                      refine wpAnyH_take (i := 3) (oi := _) (v := ?_) rfl (by kernel_rfl) (by kernel_rfl) (by kernel_rfl) (fun _ _ _ h => h) (Or.inl ⟨by rfl, ?_⟩) (by assumption) ?_
                      rotate_left 1
                      · intro w hSw; (try dsimp only at hSw); go_simp; (try with_reducible rfl)
                      try simp only [Act.put, List.setIfInBounds_toArray, List.set_cons_zero, List.set_cons_succ, List.getElem_toArray, List.getElem_cons_zero, List.getElem_cons_succ]
                      refine wpAnyH_ready (rs := [4]) (by kernel_rfl) (by simp) ?_
                      refine AllReadyH.cons (o := _) rfl (fun K hK => ?_) AllReadyH.nil
                      go_simp
                      refine HCl.out.mono ?_
                      rintro e w5 ⟨rfl, hs5⟩
                      refine hK.out _ _ ⟨keep_cell hs5.keep p0 hpg, keep_cell hs5.keep p1 hpg, keep_cell hs5.keep p2 hpg, keep_cell hs5.keep p3 hpg⟩ (fun hHeld => ?_)
                      clear hK K
                      refine wpAnyH_take (i := 5) (oi := _) (v := ?_) rfl (by kernel_rfl) (by kernel_rfl) (by kernel_rfl) (fun _ _ _ h => h) (Or.inl ⟨by rfl, ?_⟩) (by assumption) ?_
                      rotate_left 1
                      · intro w hSw; (try dsimp only at hSw); go_simp; (try with_reducible rfl)
                      try simp only [Act.put, List.setIfInBounds_toArray, List.set_cons_zero, List.set_cons_succ, List.getElem_toArray, List.getElem_cons_zero, List.getElem_cons_succ]
                      refine wpAnyH_take (i := 6) (oi := _) (v := ?_) rfl (by kernel_rfl) (by kernel_rfl) (by kernel_rfl) (fun _ _ _ h => h) (Or.inl ⟨by rfl, ?_⟩) (by assumption) ?_
                      rotate_left 1
                      · intro w hSw; (try dsimp only at hSw); go_simp; (try with_reducible rfl)
                      try simp only [Act.put, List.setIfInBounds_toArray, List.set_cons_zero, List.set_cons_succ, List.getElem_toArray, List.getElem_cons_zero, List.getElem_cons_succ]
                      refine wpAnyH_done (by kernel_rfl) ?_ _
                      go_wp2
                      refine bodyPost_ret (results_tmp2 rfl _ _ _) rfl ?_
                      rw [HR0.out b9 _ _ _ HB9.out HN.out HE.out rfl]
                      exact ch_end HSz.out HSy.out HBy.out.size HPl.out.2.1 HPl.out.2.2 HCc.out.2.2 HCc.out.1 HCc.out.2.1 ((HCc.out.2.2.start.below (below_drew (Below.refl _ _))).call hs5)
                    · have hblk := HB Wn n.2 i hSn.start HGn.out.2.1 (by rw [HGn.out.2.2.1]; exact hd8) (by have := HGn.out.1; omega)
                      obtain ⟨e, he⟩ : ∃ e, blockM f l n.2 = e := ⟨_, rfl⟩
                      rw [he] at hblk
                      have HE := Lib.hid (show (if n.1 = true then blockM f l n.2 else ([], n.2)) = e by rw [hn1]; exact he)
                      have HBk := Lib.hid hblk
                      obtain ⟨p', V2, V3, hpe, hpy, hpb, hv2, hv3, hSc⟩ := HCh1.out
                      injection hpe with hpe
                      injection hpe with hpe
                      injection hpe with hpe
                      subst hpe
                      have hpg : p ≠ g := by have := HSy.out.lt; omega
                      have hplt : p < Wn.heap.size := blk_lt hpb
                      have HPb := Lib.hid hpb
                      have HCc := Lib.hid (And.intro hv2 (And.intro hSc hpy))
                      clear hblk hn1 he hv2 hv3 hSc hpb hpy
                      go_upto_region 15 with (first | (go_at_call 116; (refine HBk.out.mono ?_); rintro e5 w6 ⟨V9, rfl, hv9, hs6⟩; obtain ⟨B9, d9, rfl, hd9⟩ := hv9.form; have pk := hs6.keep.blk HPb.out hpg (by simp); have pk3 : w6.cell? ⟨p, 3, none⟩ = some V3 := (blk_cell pk 3).trans rfl; have pf3 := blk_frozen pk 3; have H6 := Lib.hid (And.intro pk (And.intro hv9 hs6)); clear pk hv9 hs6))
                      generalize hWf : World.setCell w6 _ _ = Wf
                      have hch : ChBox w0 Wy g l f (.slice B0 (barsM r).1.length d0) (.slice B1 (barsM r).2.length d1) b9.1 e.1 e.2 (.pointer (some ⟨p, 0, none⟩)) Wf := by
                        obtain ⟨pk, hv9, hs6⟩ := H6.out
                        have hm : Same (fun k => okW w0 Wy k ∧ k ≠ p) Wn w6 := fun k hk hlt => hs6.keep.2 k hlt (okW_ne HSy.out hk.1) (by simp)
                        have hm2 : Same (fun k => okW w0 Wy k ∧ k ≠ p) w6 Wf := fun k hk _ => by rw [← hWf]; exact Below.heap_setCell w6 ⟨p, 3, none⟩ _ k hk.2
                        have hw0 : w0.heap.size ≤ Wy.heap.size := HSy.out.bel.size
                        refine ⟨p, V2, .slice B9 e.1.length d9, rfl, HCc.out.2.2, ?_, NdsK.move (NdsK.move HCc.out.1 hm) hm2, NdsK.move (NdsK.swap hv9 (fun k hk _ => ⟨okW_up (by have := HCc.out.2.1.keep.1; omega) hk, by have := HCc.out.2.2; rcases hk with hk | hk <;> omega⟩)) hm2, ?_⟩
                        · rw [← hWf]; simpa using blk_set pk 3 (.slice B9 e.1.length d9)
                        · rw [← hWf]; exact (HCc.out.2.1.call hs6).far HCc.out.2.2 (by show w0.heap.size ≤ p; have := HCc.out.2.2; omega) (fun e => hpg e.symm) _
                      have HCh := Lib.hid hch
                      clear hch hWf pk3 pf3 HCh1 HCc
                      obtain ⟨p', V2, V3, hpe, hpy, hpb, hv2, hv3, hSc⟩ := HCh.out
                      injection hpe with hpe
                      injection hpe with hpe
                      injection hpe with hpe
                      subst hpe
                      obtain ⟨B2, d2, rfl, hd2⟩ := hv2.form
                      obtain ⟨B3, d3, rfl, hd3⟩ := hv3.form
                      have p0 := (blk_cell hpb 0).trans rfl
                      have p1 := (blk_cell hpb 1).trans rfl
                      have p2 := (blk_cell hpb 2).trans rfl
                      have p3 := (blk_cell hpb 3).trans rfl
                      have hpg : p ≠ g := by have := HSy.out.lt; omega
                      have hcl := close_any hl (hSc.start.below (below_drew (Below.refl _ _))).start hi
                      have HCl := Lib.hid hcl
                      have HCc := Lib.hid (And.intro hv2 (And.intro hv3 hSc))
                      clear hcl hpb hv2 hv3 hSc
                      refine wp_region_held_drew (S := fun wv : World => wv.cell? ⟨p, 0, none⟩ = some (.slice B0 (barsM r).1.length d0) ∧ wv.cell? ⟨p, 1, none⟩ = some (.slice B1 (barsM r).2.length d1) ∧ wv.cell? ⟨p, 2, none⟩ = some (.slice B2 b9.1.length d2) ∧ wv.cell? ⟨p, 3, none⟩ = some (.slice B3 e.1.length d3)) (by kernel_rfl) ⟨p0, p1, p2, p3⟩ (fun hHeld => ?_)
                      refine wpAnyH_take (i := 0) (oi := _) (v := ?_) rfl (by kernel_rfl) (by kernel_rfl) (by kernel_rfl) (fun _ _ _ h => h) (Or.inl ⟨by rfl, ?_⟩) (by assumption) ?_
                      rotate_left 1
                      · intro w hSw; (try dsimp only at hSw); go_simp; (try with_reducible rfl)
                      try simp only [Act.put, List.setIfInBounds_toArray, List.set_cons_zero, List.set_cons_succ, List.getElem_toArray, List.getElem_cons_zero, List.getElem_cons_succ]
                      refine wpAnyH_take (i := 1) (oi := _) (v := ?_) rfl (by kernel_rfl) (by kernel_rfl) (by kernel_rfl) (fun _ _ _ h => h) (Or.inl ⟨by rfl, ?_⟩) (by assumption) ?_
                      rotate_left 1
                      · intro w hSw; (try dsimp only at hSw); go_simp; (try with_reducible rfl)
                      try simp only [Act.put, List.setIfInBounds_toArray, List.set_cons_zero, List.set_cons_succ, List.getElem_toArray, List.getElem_cons_zero, List.getElem_cons_succ]
                      refine wpAnyH_take (i := 2) (oi := _) (v := ?_) rfl (by kernel_rfl) (by kernel_rfl) (by kernel_rfl) (fun _ _ _ h => h) (Or.inl ⟨by rfl, ?_⟩) (by assumption) ?_
                      rotate_left 1
                      · intro w hSw; (try dsimp only at hSw); go_simp; (try with_reducible rfl)
                      try simp only [Act.put, List.setIfInBounds_toArray, List.set_cons_zero, List.set_cons_succ, List.getElem_toArray, List.getElem_cons_zero, List.getElem_cons_succ]
                      refine wpAnyH_take (i := 3) (oi := _) (v := ?_) rfl (by kernel_rfl) (by kernel_rfl) (by kernel_rfl) (fun _ _ _ h => h) (Or.inl ⟨by rfl, ?_⟩) (by assumption) ?_
                      rotate_left 1
                      · intro w hSw; (try dsimp only at hSw); go_simp; (try with_reducible rfl)
                      try simp only [Act.put, List.setIfInBounds_toArray, List.set_cons_zero, List.set_cons_succ, List.getElem_toArray, List.getElem_cons_zero, List.getElem_cons_succ]
                      refine wpAnyH_ready (rs := [4]) (by kernel_rfl) (by simp) ?_
                      refine AllReadyH.cons (o := _) rfl (fun K hK => ?_) AllReadyH.nil
                      go_simp
                      refine HCl.out.mono ?_
                      rintro e w5 ⟨rfl, hs5⟩
                      refine hK.out _ _ ⟨keep_cell hs5.keep p0 hpg, keep_cell hs5.keep p1 hpg, keep_cell hs5.keep p2 hpg, keep_cell hs5.keep p3 hpg⟩ (fun hHeld => ?_)
                      clear hK K
                      refine wpAnyH_take (i := 5) (oi := _) (v := ?_) rfl (by kernel_rfl) (by kernel_rfl) (by kernel_rfl) (fun _ _ _ h => h) (Or.inl ⟨by rfl, ?_⟩) (by assumption) ?_
                      rotate_left 1
                      · intro w hSw; (try dsimp only at hSw); go_simp; (try with_reducible rfl)
                      try simp only [Act.put, List.setIfInBounds_toArray, List.set_cons_zero, List.set_cons_succ, List.getElem_toArray, List.getElem_cons_zero, List.getElem_cons_succ]
                      refine wpAnyH_take (i := 6) (oi := _) (v := ?_) rfl (by kernel_rfl) (by kernel_rfl) (by kernel_rfl) (fun _ _ _ h => h) (Or.inl ⟨by rfl, ?_⟩) (by assumption) ?_
                      rotate_left 1
                      · intro w hSw; (try dsimp only at hSw); go_simp; (try with_reducible rfl)
                      try simp only [Act.put, List.setIfInBounds_toArray, List.set_cons_zero, List.set_cons_succ, List.getElem_toArray, List.getElem_cons_zero, List.getElem_cons_succ]
                      refine wpAnyH_done (by kernel_rfl) ?_ _
                      go_wp2
                      refine bodyPost_ret (results_tmp2 rfl _ _ _) rfl ?_
                      rw [HR0.out b9 _ _ _ HB9.out HN.out HE.out rfl]
                      exact ch_end HSz.out HSy.out HBy.out.size HPl.out.2.1 HPl.out.2.2 HCc.out.2.2 HCc.out.1 HCc.out.2.1 ((HCc.out.2.2.start.below (below_drew (Below.refl _ _))).call hs5)
      · have hrd := of_decide_eq_true hrb
        obtain ⟨hn2, ha, hlb, hwi, hd8⟩ := hrd
        obtain ⟨b, hr1⟩ : ∃ b, r = [b] := List.length_eq_one_iff.1 (by rw [HWd.out] at hn2; simpa using hn2)
        subst hr1
        have hx1 := x1 b rfl
        have hc2 : 2 ≤ c := by rw [HWd.out] at hcl; simpa using hcl
        obtain ⟨b9, hb9⟩ : ∃ b9, blockM f l { s with within := true } = b9 := ⟨_, rfl⟩
        have hr0 : r0 = (if (closeM l { b9.2 with within := false } i).1 = true then some (.loop b b9.1) else none, (closeM l { b9.2 with within := false } i).2) := by
          rw [← HR.out, oneM, HWd.out]
          rw [HWd.out] at ha hlb
          simp only [List.getD_cons_zero, List.getD_cons_succ] at ha hlb ⊢
          rw [if_pos ⟨ha, rfl, hlb, hwi, hd8⟩, hb9]
        have hgb := (parse_goes l f).2.2 { s with within := true } hp
        rw [hb9] at hgb
        have HR0 := Lib.hid hr0
        have HN := Lib.hid (show t.words.length = 2 from hn2)
        have HB9 := Lib.hid hb9
        have HG9 := Lib.hid hgb
        clear hr0 hrb hn2 ha hlb hwi x1 hb9 hgb
        go_upto_region 6 with (fail)
        generalize hW2 : World.setCell Wz _ _ = W2
        have hS2 : Sk w0 w W2 g l { s with within := true } := by rw [← hW2]; exact HSz.out.set_within true
        have hz2 : W2.heap.size = Wz.heap.size := by rw [← hW2]; simp [World.setCell]
        have hV2 : SsK (fun k => k < w0.heap.size) W2 (.slice (some ad) t.words.length c) t.words := by
          have hge := HS0.out.ge
          rw [← hW2]
          exact RowK.move HVz.out (fun k hk _ => Below.heap_setCell Wz ⟨g, 3, none⟩ _ k (show k ≠ g by omega))
        have hblk := HB W2 { s with within := true } i hS2.start hp hd8 (by simp only; omega)
        rw [HB9.out] at hblk
        have HBlk := Lib.hid hblk
        have HS2 := Lib.hid hS2
        have HV2 := Lib.hid hV2
        clear hblk hS2 hV2 hW2
        go_wp2_with (first | (go_at_call 116; (refine HBlk.out.mono ?_); rintro e w3 ⟨V9, rfl, hv9, hs9⟩; obtain ⟨A9, c9, rfl, hc9⟩ := hv9.form; obtain ⟨A7, c7, m0, m1, m2, m3, m4, m5, hC7⟩ := hs9.cells; have m53 := m5 3; clear m0 m5 hC7))
        generalize hW4 : World.setCell w3 _ _ = W4
        have hS4 : Sk w0 w W4 g l { b9.2 with within := false } := by rw [← hW4]; exact (HS2.out.call hs9).set_within false
        have hz4 : W4.heap.size = w3.heap.size := by rw [← hW4]; simp [World.setCell]
        have hv4 : NdsK (okW w0 Wz) W4 f (.slice A9 b9.1.length c9) b9.1 := by
          rw [← hW4]
          refine NdsK.move (RowK.swap ((RowK.imp hv9 fun v x _ hv => NdK.swap (fun k hk _ => ?_) _ _ _ hv)) (fun k hk _ => ?_)) (fun k hk _ => Below.heap_setCell w3 ⟨g, 3, none⟩ _ k (okW_ne HSz.out.start hk))
          · unfold okW at hk ⊢; rw [hz2] at hk; exact hk
          · unfold okW at hk ⊢; rw [hz2] at hk; exact hk
        have HVW4 := Lib.hid (RowK.move HV2.out (w' := W4) (fun k hk hlt => by
          have hge := HS0.out.ge
          rw [← hW4]
          exact (Below.heap_setCell w3 ⟨g, 3, none⟩ _ k (show k ≠ g by omega)).trans (hs9.keep.2 k hlt (by omega) (by simp))))
        obtain ⟨ad4, hA4, x4, x5⟩ := words_at HVW4.out HWd.out
        injection hA4 with hA4
        subst hA4
        have hx4 := x5 b rfl
        have hcl4 := close_any hl (hS4.start.below (below_drew (Below.refl _ _))).start hi
        have HCl := Lib.hid hcl4
        have HS4 := Lib.hid hS4
        have HV4 := Lib.hid hv4
        have hnn := HN.out
        rw [hnn]
        clear hcl4 hS4 hv4 hW4 x5 m1 m2 m3 m4
        refine wp_region_held_drew (S := fun wv : World => wv.cell? ⟨ad.block, ad.off + 1, none⟩ = some (.string (str b))) (by kernel_rfl) hx4 (fun hHeld => ?_)
        refine wpAnyH_take (i := 0) (oi := _) (v := ?_) rfl (by kernel_rfl) (by kernel_rfl) (by kernel_rfl) (fun _ _ _ h => h) (Or.inl ⟨by rfl, ?_⟩) (by assumption) ?_
        rotate_left 1
        · intro w hSw; (try dsimp only at hSw); go_simp; (try with_reducible rfl)
        try simp only [Act.put, List.setIfInBounds_toArray, List.set_cons_zero, List.set_cons_succ, List.getElem_toArray, List.getElem_cons_zero, List.getElem_cons_succ]
        refine wpAnyH_take (i := 1) (oi := _) (v := ?_) rfl (by kernel_rfl) (by kernel_rfl) (by kernel_rfl) (fun _ _ _ h => h) (Or.inl ⟨by rfl, ?_⟩) (by assumption) ?_
        rotate_left 1
        · intro w hSw; (try dsimp only at hSw); go_simp; (try with_reducible rfl)
        try simp only [Act.put, List.setIfInBounds_toArray, List.set_cons_zero, List.set_cons_succ, List.getElem_toArray, List.getElem_cons_zero, List.getElem_cons_succ]
        refine wpAnyH_take (i := 2) (oi := _) (v := ?_) rfl (by kernel_rfl) (by kernel_rfl) (by kernel_rfl) (fun _ _ _ h => h) (Or.inl ⟨by rfl, ?_⟩) (by assumption) ?_
        rotate_left 1
        · intro w hSw; (try dsimp only at hSw); go_simp; (try with_reducible rfl)
        try simp only [Act.put, List.setIfInBounds_toArray, List.set_cons_zero, List.set_cons_succ, List.getElem_toArray, List.getElem_cons_zero, List.getElem_cons_succ]
        refine wpAnyH_take (i := 3) (oi := _) (v := ?_) rfl (by kernel_rfl) (by kernel_rfl) (by kernel_rfl) (fun _ _ _ h => h) (Or.inl ⟨by rfl, ?_⟩) (by assumption) ?_
        rotate_left 1
        · intro w hSw; (try dsimp only at hSw); go_simp; (try with_reducible rfl)
        try simp only [Act.put, List.setIfInBounds_toArray, List.set_cons_zero, List.set_cons_succ, List.getElem_toArray, List.getElem_cons_zero, List.getElem_cons_succ]
        refine wpAnyH_take (i := 4) (oi := _) (v := ?_) rfl (by kernel_rfl) (by kernel_rfl) (by kernel_rfl) (fun _ _ _ h => h) (Or.inl ⟨by rfl, ?_⟩) (by assumption) ?_
        rotate_left 1
        · intro w hSw; (try dsimp only at hSw); go_simp; (try with_reducible rfl)
        try simp only [Act.put, List.setIfInBounds_toArray, List.set_cons_zero, List.set_cons_succ, List.getElem_toArray, List.getElem_cons_zero, List.getElem_cons_succ]
        refine wpAnyH_take (i := 5) (oi := _) (v := ?_) rfl (by kernel_rfl) (by kernel_rfl) (by kernel_rfl) (fun _ _ _ h => h) (Or.inl ⟨by rfl, ?_⟩) (by assumption) ?_
        rotate_left 1
        · intro w hSw; (try dsimp only at hSw); go_simp; (try with_reducible rfl)
        try simp only [Act.put, List.setIfInBounds_toArray, List.set_cons_zero, List.set_cons_succ, List.getElem_toArray, List.getElem_cons_zero, List.getElem_cons_succ]
        refine wpAnyH_take (i := 6) (oi := _) (v := ?_) rfl (by kernel_rfl) (by kernel_rfl) (by kernel_rfl) (fun _ _ _ h => h) (Or.inl ⟨by rfl, ?_⟩) (by assumption) ?_
        rotate_left 1
        · intro w hSw; (try dsimp only at hSw); go_simp; (try with_reducible rfl)
        try simp only [Act.put, List.setIfInBounds_toArray, List.set_cons_zero, List.set_cons_succ, List.getElem_toArray, List.getElem_cons_zero, List.getElem_cons_succ]
        refine wpAnyH_take (i := 7) (oi := _) (v := ?_) rfl (by kernel_rfl) (by kernel_rfl) (by kernel_rfl) (fun _ _ _ h => h) (Or.inl ⟨by rfl, ?_⟩) (by assumption) ?_
        rotate_left 1
        · intro w hSw; (try dsimp only at hSw); go_simp; (try with_reducible rfl)
        try simp only [Act.put, List.setIfInBounds_toArray, List.set_cons_zero, List.set_cons_succ, List.getElem_toArray, List.getElem_cons_zero, List.getElem_cons_succ]
        refine wpAnyH_ready (rs := [8]) (by kernel_rfl) (by simp) ?_
        refine AllReadyH.cons (o := _) rfl (fun K hK => ?_) AllReadyH.nil
        go_simp
        refine HCl.out.mono ?_
        rintro e w5 ⟨rfl, hs5⟩
        have hx5 : w5.cell? ⟨ad.block, ad.off + 1, none⟩ = some (.string (str b)) := by
          have hge := HS0.out.ge
          obtain ⟨_, hA5, _, x6⟩ := words_at (RowK.move HVW4.out (w' := w5) (fun k hk hlt => hs5.keep.2 k hlt (by omega) (by simp))) HWd.out
          injection hA5 with hA5
          rw [hA5]
          exact x6 b rfl
        have HS5 := Lib.hid hs5
        clear hs5 hHeld
        refine hK.out _ _ hx5 (fun hHeld => ?_)
        clear hK K
        refine wpAnyH_take (i := 9) (oi := _) (v := ?_) rfl (by kernel_rfl) (by kernel_rfl) (by kernel_rfl) (fun _ _ _ h => h) (Or.inl ⟨by rfl, ?_⟩) (by assumption) ?_
        rotate_left 1
        · intro w hSw; (try dsimp only at hSw); go_simp; (try with_reducible rfl)
        try simp only [Act.put, List.setIfInBounds_toArray, List.set_cons_zero, List.set_cons_succ, List.getElem_toArray, List.getElem_cons_zero, List.getElem_cons_succ]
        refine wpAnyH_take (i := 10) (oi := _) (v := ?_) rfl (by kernel_rfl) (by kernel_rfl) (by kernel_rfl) (fun _ _ _ h => h) (Or.inl ⟨by rfl, ?_⟩) (by assumption) ?_
        rotate_left 1
        · intro w hSw; (try dsimp only at hSw); go_simp; (try with_reducible rfl)
        try simp only [Act.put, List.setIfInBounds_toArray, List.set_cons_zero, List.set_cons_succ, List.getElem_toArray, List.getElem_cons_zero, List.getElem_cons_succ]
        refine wpAnyH_done (by kernel_rfl) ?_ _
        go_wp2_with fail
        refine bodyPost_ret (results_tmp2 rfl _ _ _) rfl ?_
        rw [HR0.out]
        refine one_end (fun _ => ?_) (HS4.out.call ((HS4.out.start.below (below_drew (Below.refl _ _))).call HS5.out))
        exact ⟨_, rfl, NdsK.swap (NdsK.move HV4.out (HSz.out.sameW ((HS4.out.start.below (below_drew (Below.refl _ _))).call HS5.out))) (fun k hk _ => okW_up HSz.out.keep.1 hk)⟩
end Go.Proofs.YtllhpkpckjacfaaGreatDoor
