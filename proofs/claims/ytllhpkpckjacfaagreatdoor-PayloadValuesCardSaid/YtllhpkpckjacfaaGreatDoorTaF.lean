/- template's parser: a place's words parted by bars. -/
import Derived.Test.YtllhpkpckjacfaaGreatDoorTaG
import Derived.Test.YtllhpkpckjacfaaGreatDoorTaH
import Derived.Deep.RegionHeld3
import Derived.Deep.AppendLies
import Derived.Deep.RegionLaw
namespace Go.Proofs.YtllhpkpckjacfaaGreatDoor
open Go.RowKit Go.Proofs.YtllhpkpckjacfaaGreatDoorW.PrintWords PTemplateFilters
set_option linter.unusedVariables false
set_option linter.unusedSimpArgs false

def wBar : Bytes := [124]
/-- Words, parted by bars: what stands ahead of the first one, and the others. -/
def barsM : List Bytes → List Bytes × List (List Bytes)
  | [] => ([], [])
  | a :: w => if a = wBar then ([], (barsM w).1 :: (barsM w).2) else (a :: (barsM w).1, (barsM w).2)
def allBars (l : List Bytes) : List (List Bytes) := (barsM l).1 :: (barsM l).2
/-- The first bar's place. -/
def barAt : List Bytes → Option Nat
  | [] => none
  | a :: w => if a = wBar then some 0 else (barAt w).map (· + 1)
theorem barAt_none {l : List Bytes} (h : barAt l = none) : allBars l = [l] := by
  induction l with
  | nil => rfl
  | cons a w ih =>
    unfold barAt at h
    split at h
    · cases h
    · rename_i ha
      have := ih (by simpa using h)
      unfold allBars at this ⊢
      unfold barsM
      rw [if_neg ha]
      injection this with h1 h2
      rw [h1, h2]
theorem barAt_some {l : List Bytes} {i : Nat} (h : barAt l = some i) : i < l.length ∧ allBars l = l.take i :: allBars (l.drop (i + 1)) := by
  induction l generalizing i with
  | nil => cases h
  | cons a w ih =>
    unfold barAt at h
    split at h
    · rename_i ha
      injection h with h
      subst h
      refine ⟨by simp, ?_⟩
      simp only [List.take_zero, Nat.zero_add, List.drop_succ_cons, List.drop_zero]
      unfold allBars
      rw [barsM, if_pos ha]
    · rename_i ha
      cases hb : barAt w with
      | none => rw [hb] at h; cases h
      | some k =>
        rw [hb] at h
        simp only [Option.map_some, Option.some.injEq] at h
        subst h
        obtain ⟨h1, h2⟩ := ih hb
        refine ⟨by simp; omega, ?_⟩
        simp only [List.take_succ_cons, List.drop_succ_cons]
        unfold allBars at h2 ⊢
        rw [barsM, if_neg ha]
        injection h2 with h3 h4
        simp only [h3, h4]
def idxM (l : List Bytes) : Int := match barAt l with | none => -1 | some i => i
theorem rdOf_str (l : List Bytes) {j : Nat} (hj : j < l.length) : rdOf ByteArray.empty (l.map str) (j : Int) = str l[j] := by
  unfold rdOf
  rw [Int.toNat_natCast, List.getD_eq_getElem?_getD, List.getElem?_map, List.getElem?_eq_getElem hj]
  rfl
theorem idx_l0 (l : List Bytes) : ∀ (b a : List Bytes), l = a ++ b → l.length ≤ 1000000 → slices_Index_string_string.l0 (b.length + 1) (l.map str) (str wBar) (l.length : Int) (a.length : Int) = some (match barAt b with | none => -1 | some i => ((a.length + i : Nat) : Int))
  | [], a, h, hl => by
    subst h
    simp [slices_Index_string_string.l0, barAt]
  | c :: b, a, h, hl => by
    have hlt : a.length < l.length := by rw [h]; simp
    have hg : l[a.length] = c := by subst h; simp
    rw [slices_Index_string_string.l0, if_pos (by omega), if_pos (by omega), if_pos (by rw [List.length_map]; omega), rdOf_str l hlt, hg, str_tl, str_tl, barAt]
    by_cases hc : c = wBar
    · rw [if_pos hc.symm, if_pos hc]; rfl
    · rw [if_neg (fun e => hc e.symm), if_neg hc]
      have ih := idx_l0 l b (a ++ [c]) (by rw [h]; simp) hl
      have hw : wrap64 ((a.length : Int) + 1) = ((a ++ [c]).length : Int) := by rw [w64_in _ (by omega)]; simp
      rw [hw]
      have : (c :: b).length = b.length + 1 := rfl
      rw [this, ih]
      cases barAt b with
      | none => rfl
      | some k =>
        show some (((a ++ [c]).length + k : Nat) : Int) = some ((a.length + (k + 1) : Nat) : Int)
        rw [List.length_append, List.length_singleton, show a.length + 1 + k = a.length + (k + 1) by omega]
theorem idx_any {ok : Nat → Prop} {w : World} {A : Option Addr} {n c : Nat} {l : List Bytes} (h : SsK ok w (.slice A n c) l) (hl : l.length ≤ 1000000) :
    Calls Tryz.prog 141 #[.slice A n c, .string ⟨#[124]⟩] w fun e w' => e = .returned (.int .i64 (idxM l)) ∧ Drawn0 w w' := by
  obtain ⟨A1, c1, e, hc⟩ := h.form
  injection e with e1 e2 e3
  subst e1 e2 e3
  have hC := h.toC (by omega)
  have := slices_Index_string_string.calls (l.length + 1) A c (l.map str) (str wBar) (idxM l) w (by rw [List.length_map]; exact hC) (by rw [List.length_map]; exact hc) (by
    have h1 := idx_l0 l l [] rfl hl
    rw [slices_Index_string_string.f, List.length_map]
    simp only [List.length_nil, Nat.zero_add] at h1
    exact h1)
  rw [List.length_map] at this
  exact this
theorem SsK.after {ok : Nat → Prop} {w : World} {ad : Addr} {n c : Nat} {l : List Bytes} {i : Nat} (h : SsK ok w (.slice (some ad) n c) l) (hi : i < l.length) :
    SsK ok w (.slice (if c = i + 1 then some ad else some ⟨ad.block, ad.off + (i + 1), none⟩) (l.length - (i + 1)) (c - (i + 1))) (l.drop (i + 1)) := by
  obtain ⟨A, c1, e, hc⟩ := h.form
  injection e with e1 e2 e3
  subst e3
  split
  · rename_i hci
    have : l.length - (i + 1) = 0 := by omega
    rw [this]
    exact RowK.ended _ _ _ _ _ (by omega)
  · have hA : ad.add (i + 1) = ⟨ad.block, ad.off + (i + 1), none⟩ := by unfold Addr.add; rw [if_neg (by omega)]
    have := RowK.drop h (i := i + 1) (c2 := c - (i + 1)) (by omega) (by omega)
    rw [hA] at this
    exact this
/-- A row of one's own grows: what lay below its base stays. -/
theorem below_grown_own {B : Nat} {w0 w w' : World} {e : TypeId} {size n : Nat} {v : Value} {xs : List Value} {o : Obj} (hb : Below B w0 w) (hB : B ≤ w.heap.size) (ho : w.ownsRow B e size v n xs) (hg : ((w.alloc o).drew).grownBy w' v.ownBlock) : Below B w0 w' :=
  pw_below_grown (below_drew (hb.alloc hB o)) _ (by simp; omega) hg (fun k hk => own_base ho k hk)
/-- What read's loop keeps: the parts so far, and what is left of the words. -/
def RdRel (ok : Nat → Prop) (w : World) (l : List Bytes) (v1 v6 : Value) (wr : World) : Prop :=
  ∃ (done : List (List Bytes)) (rest : List Bytes) (vs : List Value), Below w.heap.size w wr ∧ allBars l = done ++ allBars rest ∧ rest.length + done.length ≤ l.length ∧ SsK ok w v1 rest ∧
    wr.ownsRow w.heap.size 22 1 v6 done.length vs ∧ ∀ (j : Nat) (v : Value) (x : List Bytes), vs[j]? = some v → done[j]? = some x → SsK ok w v x
theorem RdRel.step {ok : Nat → Prop} {W1 w2 w3 : World} {l rest : List Bytes} {done : List (List Bytes)} {vs : List Value} {A6 A1 : Option Addr} {c6 c1 i g6 cap6 : Nat} {V : Value} {o : Obj} (hi : i < rest.length) (hb : Below W1.heap.size W1 w2) (ho : w2.ownsRow W1.heap.size 22 1 (.slice A6 done.length c6) done.length vs)
    (hvs : ∀ (j : Nat) (v : Value) (x : List Bytes), vs[j]? = some v → done[j]? = some x → SsK ok W1 v x) (hall : allBars l = done ++ allBars rest) (hba : barAt rest = some i) (hlen : rest.length + done.length ≤ l.length) (hS : SsK ok W1 (.slice A1 rest.length c1) rest)
    (ho3 : w3.ownsRow W1.heap.size 22 1 (.slice (some ⟨g6, 0, none⟩) (done.length + 1) cap6) (done.length + 1) (vs ++ [.slice A1 i c1])) (hg : ((w2.alloc o).drew).grownBy w3 (Value.slice A6 done.length c6).ownBlock) (hV : SsK ok W1 V (rest.drop (i + 1))) :
    RdRel ok W1 l V (.slice (some ⟨g6, 0, none⟩) (done.length + 1) cap6) w3 := by
  refine ⟨done ++ [rest.take i], rest.drop (i + 1), vs ++ [.slice A1 i c1], ?_, ?_, ?_, hV, ?_, ?_⟩
  · exact below_grown_own hb hb.size ho hg
  · rw [hall, (barAt_some hba).2, List.append_assoc]; rfl
  · rw [List.length_append, List.length_drop, List.length_singleton]; omega
  · rw [List.length_append]; exact ho3
  · intro j v x hj hx
    have hlv : vs.length = done.length := by have := ho.1; omega
    by_cases hjl : j < done.length
    · rw [List.getElem?_append_left (by omega)] at hj hx
      exact hvs j v x hj hx
    · have hje : j = done.length := by
        have := (List.getElem?_eq_some_iff.1 hx).1
        rw [List.length_append, List.length_singleton] at this
        omega
      subst hje
      rw [List.getElem?_append_right (by omega)] at hj hx
      simp only [hlv, Nat.sub_self, List.getElem?_cons_zero, Option.some.injEq] at hj hx
      subst hj hx
      exact hS.take (Nat.le_of_lt hi)
theorem RdRel.ends {ok : Nat → Prop} {W1 w2 w3 : World} {l rest : List Bytes} {done : List (List Bytes)} {vs : List Value} {A1 : Option Addr} {c1 : Nat} {V1 : Value} (hb : Below W1.heap.size W1 w2)
    (hvs : ∀ (j : Nat) (v : Value) (x : List Bytes), vs[j]? = some v → done[j]? = some x → SsK ok W1 v x) (hall : allBars l = done ++ allBars rest) (hba : barAt rest = none) (hS : SsK ok W1 (.slice A1 rest.length c1) rest)
    (ho3 : w3.ownsRow W1.heap.size 22 1 V1 (done.length + 1) (vs ++ [.slice A1 rest.length c1])) (hb3 : Below W1.heap.size W1 w3) (hok : ∀ k, W1.heap.size ≤ k → ok k) :
    ∃ g1 cap1 V0, V1 = .slice (some ⟨g1, 0, none⟩) (done.length + 1) cap1 ∧ w3.cell? ⟨g1, 0, none⟩ = some V0 ∧ done.length + 1 ≤ cap1 ∧ SsK ok w3 V0 (barsM l).1 ∧ RowK ok w3 (fun v f => SsK ok w3 v f) V1 (allBars l) := by
  have hall2 : allBars l = done ++ [rest] := by rw [hall, barAt_none hba]
  have hlv : vs.length = done.length := by have := ho3.1; simp at this; omega
  have hm : Same ok W1 w3 := same_below hb3 (Nat.le_refl _)
  have hRow : RowK ok w3 (fun v f => SsK ok w3 v f) V1 (allBars l) := by
    refine RowK.of_own ho3 (by rw [hall2]; simp) (fun k hk => hok k (own_base ho3 k hk)) ?_
    intro j v x hj hx
    rw [hall2] at hx
    by_cases hjl : j < done.length
    · rw [List.getElem?_append_left (by omega)] at hj hx
      exact (hvs j v x hj hx).move hm
    · have hje : j = done.length := by
        have := (List.getElem?_eq_some_iff.1 hx).1
        rw [List.length_append, List.length_singleton] at this
        omega
      subst hje
      rw [List.getElem?_append_right (by omega)] at hj hx
      simp only [hlv, Nat.sub_self, List.getElem?_cons_zero, Option.some.injEq] at hj hx
      subst hj hx
      exact hS.move hm
  obtain ⟨ad, c, v, hV, _, hcell, hP⟩ := hRow.at (j := 0) (by rw [hall2]; simp)
  have hcell' : w3.cell? ad = some v := by rw [Addr.add_zero'] at hcell; exact hcell
  obtain ⟨g1, cap1, e1, hle⟩ : ∃ g1 cap1, V1 = .slice (some ⟨g1, 0, none⟩) (done.length + 1) cap1 ∧ done.length + 1 ≤ cap1 := by
    rcases ho3.2 with ⟨_, h0⟩ | ⟨g, cap, cur, rfl, _, _, hnc, _⟩
    · omega
    · exact ⟨g, cap, rfl, hnc⟩
  have e2 := e1.symm.trans hV
  injection e2 with e3 _ _
  injection e3 with e3
  subst e3
  exact ⟨g1, cap1, v, e1, hcell', hle, hP, hRow⟩
/-- Behind the place's making. -/
def RdCut (ok : Nat → Prop) (W1 : World) (l : List Bytes) (v8 : Value) (wc : World) : Prop :=
  ∃ q A0 c0 A5 c5, v8 = .pointer (some ⟨q, 0, none⟩) ∧ wc.heap[q]? = some (.cells #[.slice A0 (barsM l).1.length c0, .slice A5 (barsM l).2.length c5] 163 (0, 0)) ∧ W1.heap.size ≤ q ∧ Below W1.heap.size W1 wc ∧
    SsK ok wc (.slice A0 (barsM l).1.length c0) (barsM l).1 ∧ RowK ok wc (fun v f => SsK ok wc v f) (.slice A5 (barsM l).2.length c5) (barsM l).2
theorem RowK.turn {ok : Nat → Prop} {w w' : World} {V : Value} {L : List (List Bytes)} (h : RowK ok w (fun v f => SsK ok w v f) V L) (hm : Same ok w w') : RowK ok w' (fun v f => SsK ok w' v f) V L :=
  (h.move hm).imp (fun v x _ hv => RowK.move hv hm)
theorem RdCut.make {ok : Nat → Prop} {W1 w3 : World} {l : List Bytes} {A0 A5 : Option Addr} {c0 c5 : Nat} (hb : Below W1.heap.size W1 w3) (h0 : SsK ok w3 (.slice A0 (barsM l).1.length c0) (barsM l).1) (h5 : RowK ok w3 (fun v f => SsK ok w3 v f) (.slice A5 (barsM l).2.length c5) (barsM l).2) :
    RdCut ok W1 l (.pointer (some ⟨w3.heap.size, 0, none⟩)) ((w3.alloc (.cells #[.slice A0 (barsM l).1.length c0, .slice A5 (barsM l).2.length c5] 163)).drew) := by
  have hb2 : Below w3.heap.size w3 ((w3.alloc (.cells #[.slice A0 (barsM l).1.length c0, .slice A5 (barsM l).2.length c5] 163)).drew) := below_drew (below_alloc (Below.refl _ _) _)
  refine ⟨w3.heap.size, A0, c0, A5, c5, rfl, heap_alloc_new w3 _, hb.size, hb.trans (hb2.mono hb.size), RowK.move h0 (same_below hb2 (Nat.le_refl _)), h5.turn (same_below hb2 (Nat.le_refl _))⟩
theorem allBars_len {l : List Bytes} {done : List (List Bytes)} (h : (allBars l).length = done.length + 1) : (barsM l).2.length = done.length := by
  unfold allBars at h; simpa using h
theorem RdCut.one {ok : Nat → Prop} {W1 w3 : World} {l : List Bytes} {A0 : Option Addr} {c0 g1 cap1 n : Nat} (hb : Below W1.heap.size W1 w3) (h0 : SsK ok w3 (.slice A0 (barsM l).1.length c0) (barsM l).1) (hR : RowK ok w3 (fun v f => SsK ok w3 v f) (.slice (some ⟨g1, 0, none⟩) (n + 1) cap1) (allBars l)) (hone : cap1 = 1) (hc : n + 1 ≤ cap1) :
    RdCut ok W1 l (.pointer (some ⟨w3.heap.size, 0, none⟩)) ((w3.alloc (.cells #[.slice A0 (barsM l).1.length c0, .slice (some ⟨g1, 0, none⟩) n 0] 163)).drew) := by
  obtain ⟨A, c, e, _⟩ := hR.form
  injection e with e1 e2 e3
  have hl : (barsM l).2.length = n := by unfold allBars at e2; simp at e2; omega
  have hn : n = 0 := by omega
  subst hn
  have hnil : (barsM l).2 = [] := List.length_eq_zero_iff.1 hl
  have := RdCut.make (A5 := some ⟨g1, 0, none⟩) (c5 := 0) hb h0 (by rw [hl, hnil]; exact RowK.empty _ _ _ _ _)
  rw [hl] at this
  exact this
theorem RdCut.more {ok : Nat → Prop} {W1 w3 : World} {l : List Bytes} {A0 : Option Addr} {c0 g1 cap1 n : Nat} (hb : Below W1.heap.size W1 w3) (h0 : SsK ok w3 (.slice A0 (barsM l).1.length c0) (barsM l).1) (hR : RowK ok w3 (fun v f => SsK ok w3 v f) (.slice (some ⟨g1, 0, none⟩) (n + 1) cap1) (allBars l)) (hc : n + 1 ≤ cap1) :
    RdCut ok W1 l (.pointer (some ⟨w3.heap.size, 0, none⟩)) ((w3.alloc (.cells #[.slice A0 (barsM l).1.length c0, .slice (some ⟨g1, 1, none⟩) n (cap1 - 1)] 163)).drew) := by
  obtain ⟨A, c, e, _⟩ := hR.form
  injection e with e1 e2 e3
  have hl : (barsM l).2.length = n := by unfold allBars at e2; simp at e2; omega
  have h5 := RowK.drop hR (i := 1) (c2 := cap1 - 1) (by omega) (by omega)
  rw [← e2] at h5
  have := RdCut.make (A5 := some ⟨g1, 1, none⟩) (c5 := cap1 - 1) hb h0 (by rw [hl]; exact h5)
  rw [hl] at this
  exact this
theorem _root_.Go.RowKit.Below.block' {w w' : World} (h : Below w.heap.size w w') {k : Nat} {o : Obj} (hk : w.heap[k]? = some o) : w'.heap[k]? = some o := by
  have hlt : k < w.heap.size := by
    rcases Nat.lt_or_ge k w.heap.size with h1 | h1
    · exact h1
    · rw [Array.getElem?_eq_none h1] at hk; cases hk
  rw [h.block k (by omega)]
  exact hk
/-- Before the place's value is looked at. -/
structure RdS (ok : Nat → Prop) (w W1 : World) (l : List Bytes) (g q : Nat) (A0 A5 : Option Addr) (c0 c5 : Nat) (within : Bool) (wc : World) : Prop where
  cells : wc.cell? ⟨q, 0, none⟩ = some (.slice A0 (barsM l).1.length c0) ∧ wc.cell? ⟨q, 1, none⟩ = some (.slice A5 (barsM l).2.length c5) ∧ wc.cell? ⟨g, 3, none⟩ = some (.bool within) ∧ wc.frozen? ⟨w.heap.size, 0, none⟩ = false ∧ wc.frozen? ⟨w.heap.size, 1, none⟩ = false ∧ wc.cell? ⟨w.heap.size, 0, none⟩ = some (.slice none 0 0) ∧ wc.cell? ⟨w.heap.size, 1, none⟩ = some (.slice none 0 0)
  blk : wc.heap[w.heap.size]? = some (.cells #[.slice none 0 0, .slice none 0 0] 163 (0, 0))
  below : Below W1.heap.size W1 wc
  s0 : SsK ok wc (.slice A0 (barsM l).1.length c0) (barsM l).1
  s5 : RowK ok wc (fun v f => SsK ok wc v f) (.slice A5 (barsM l).2.length c5) (barsM l).2
theorem RdS.mk' {ok : Nat → Prop} {w W1 wc : World} {l : List Bytes} {g q : Nat} {A0 A5 Ap : Option Addr} {c0 c5 np cp : Nat} {within : Bool} {x1 x2 x4 : Value} (hq : wc.heap[q]? = some (.cells #[.slice A0 (barsM l).1.length c0, .slice A5 (barsM l).2.length c5] 163 (0, 0))) (hr : wc.heap[w.heap.size]? = some (.cells #[.slice none 0 0, .slice none 0 0] 163 (0, 0)))
    (hg : wc.heap[g]? = some (.cells #[.slice Ap np cp, x1, x2, .bool within, x4] 106 (0, 0))) (hb : Below W1.heap.size W1 wc) (h0 : SsK ok wc (.slice A0 (barsM l).1.length c0) (barsM l).1) (h5 : RowK ok wc (fun v f => SsK ok wc v f) (.slice A5 (barsM l).2.length c5) (barsM l).2) : RdS ok w W1 l g q A0 A5 c0 c5 within wc :=
  ⟨⟨by simp [World.cell?, hq], by simp [World.cell?, hq], by simp [World.cell?, hg], by simp [World.frozen?, hr], by simp [World.frozen?, hr], by simp [World.cell?, hr], by simp [World.cell?, hr]⟩, hr, hb, h0, h5⟩
theorem RdS.later {ok : Nat → Prop} {w W1 wc wx w6 : World} {l : List Bytes} {g q : Nat} {A0 A5 : Option Addr} {c0 c5 : Nat} {within : Bool} (h : RdS ok w W1 l g q A0 A5 c0 c5 within wc) (hb : Below wc.heap.size wc w6) : RdS ok w W1 l g q A0 A5 c0 c5 within w6 := by
  obtain ⟨k0, k1, k2, k3, k4, k5, k6⟩ := h.cells
  have hm : Same ok wc w6 := same_below hb (Nat.le_refl _)
  have hr := hb.block' h.blk
  exact ⟨⟨(hb.cell (World.block_lt_of_cell? wc _ k0)).trans k0, (hb.cell (World.block_lt_of_cell? wc _ k1)).trans k1, (hb.cell (World.block_lt_of_cell? wc _ k2)).trans k2, by simp [World.frozen?, hr], by simp [World.frozen?, hr], by simp [World.cell?, hr], by simp [World.cell?, hr]⟩, hr, h.below.trans (hb.mono h.below.size), RowK.move h.s0 hm, h.s5.turn hm⟩
/-- Behind the store of the result. -/
theorem RdS.fin {ok : Nat → Prop} {w W1 wc : World} {l : List Bytes} {g q : Nat} {A0 A5 : Option Addr} {c0 c5 : Nat} {within : Bool} (h : RdS ok w W1 l g q A0 A5 c0 c5 within wc) (hn : ¬ ok w.heap.size) (hB : Below w.heap.size w W1) :
    let W' := (wc.setCell ⟨w.heap.size, 0, none⟩ (.slice A0 (barsM l).1.length c0)).setCell ⟨w.heap.size, 1, none⟩ (.slice A5 (barsM l).2.length c5)
    W'.heap[w.heap.size]? = some (.cells #[.slice A0 (barsM l).1.length c0, .slice A5 (barsM l).2.length c5] 163 (0, 0)) ∧ Below w.heap.size w W' ∧ SsK ok W' (.slice A0 (barsM l).1.length c0) (barsM l).1 ∧ RowK ok W' (fun v f => SsK ok W' v f) (.slice A5 (barsM l).2.length c5) (barsM l).2 := by
  intro W'
  obtain ⟨k0, k1, k2, k3, k4, k5, k6⟩ := h.cells
  have hm : Same ok wc W' := fun k hk _ => by
    have hne : k ≠ w.heap.size := fun e => hn (e ▸ hk)
    have h1 : ∀ (W : World) (j : Nat) (v : Value), (W.setCell ⟨w.heap.size, j, none⟩ v).heap[k]? = W.heap[k]? := fun W j v => Below.heap_setCell W ⟨w.heap.size, j, none⟩ v k hne
    show (((wc.setCell _ _).setCell _ _).heap[k]?) = _
    rw [h1, h1]
  refine ⟨?_, ((hB.trans (h.below.mono hB.size)).setCell (Nat.le_refl _) _).setCell (Nat.le_refl _) _, RowK.move h.s0 hm, h.s5.turn hm⟩
  have e1 := blk_set h.blk 0 (.slice A0 (barsM l).1.length c0)
  have e2 := blk_set e1 1 (.slice A5 (barsM l).2.length c5)
  simpa using e2
theorem bars_mem (l : List Bytes) : ∀ f ∈ allBars l, ∀ b ∈ f, b ∈ l := by
  induction l with
  | nil => intro f hf b hb; simp [allBars, barsM] at hf; subst hf; cases hb
  | cons a w ih =>
    intro f hf b hb
    unfold allBars at hf ih
    rw [barsM] at hf
    split at hf
    · simp only [List.mem_cons] at hf ih
      rcases hf with rfl | h
      · cases hb
      · exact List.mem_cons_of_mem _ (ih f h b hb)
    · simp only [List.mem_cons] at hf ih
      rcases hf with rfl | h
      · simp only [List.mem_cons] at hb
        rcases hb with rfl | h2
        · simp
        · exact List.mem_cons_of_mem _ (ih _ (Or.inl rfl) b h2)
      · exact List.mem_cons_of_mem _ (ih f (Or.inr h) b hb)
theorem bars_count (l : List Bytes) : (barsM l).1.length + (barsM l).2.length ≤ l.length := by
  induction l with
  | nil => simp [barsM]
  | cons a w ih =>
    rw [barsM]
    split <;> simp <;> omega
theorem bars_len (l : List Bytes) (h : l.length ≤ 4097) : (barsM l).1.length ≤ 1000000 ∧ (barsM l).2.length ≤ 1000000 := by
  have := bars_count l
  omega
def RdPost (ok : Nat → Prop) (w : World) (l : List Bytes) (within : Bool) (std : Bool) (e : Ending) (w' : World) : Prop :=
  ∃ V0 V1, e = .returned (.tuple #[.agg #[V0, V1], .bool std]) ∧ Below w.heap.size w w' ∧ SsK ok w' V0 (barsM l).1 ∧ RowK ok w' (fun v f => SsK ok w' v f) V1 (barsM l).2
theorem info22 : (Tryz.prog.info? 22).map (fun i => (i.zero, i.size, i.bytes)) = some (some (.slice none 0 0), 1, 24) := by kernel_rfl
set_option maxRecDepth 100000 in
set_option maxHeartbeats 4000000 in
theorem read_core {ok : Nat → Prop} {w0 w : World} {g : Nat} {toks : List S129} {at_ deep wrong : Int} {within : Bool} (hI : IsS106 w0 w g toks at_ deep within wrong) {V : Value} {l : List Bytes} (hV : SsK ok w V l) (hl : l.length ≤ 4097)
    (hok : ∀ k, w.heap.size < k → ok k) (hnk : ¬ ok w.heap.size) (hm : ∀ b ∈ l, b.length ≤ maxLen) (hm2 : ∀ b ∈ l, b.length ≤ 1000000) (std : Bool) (hstd : (standsM (barsM l).1 within && (barsM l).2.all filtersM) = std) : Calls Tryz.prog 118 #[.pointer (some ⟨g, 0, none⟩), V] w (RdPost ok w l within std) := by
  obtain ⟨A, c, rfl, hc⟩ := hV.form
  have HI := Lib.hid hI
  have HV := Lib.hid hV
  have HOk := Lib.hid hok
  clear hI hV hok
  go_enter Tryz.func118, Tryz.ntmps118
  go_wp2_with fail
  obtain ⟨W1, hW1⟩ : ∃ W1, w.alloc (.cells #[.slice none 0 0, .slice none 0 0] 163) = W1 := ⟨_, rfl⟩
  have HW1 := Lib.hid hW1
  have hB1 : Below w.heap.size w W1 := by rw [← hW1]; exact below_alloc (Below.refl _ _) _
  have HZ1 := Lib.hid (show W1.heap.size = w.heap.size + 1 by rw [← hW1]; simp)
  have HB1 := Lib.hid hB1
  rw [hW1]
  clear hB1 hW1
  go_loopw [1, 6] (fun v1 v6 wr => RdRel ok W1 l v1 v6 wr) (fun v _ _ => match v with | .slice _ n _ => n | _ => 0)
  case atStart => exact ⟨[], l, [], Below.refl _ _, rfl, by simp, HV.out.move (same_below HB1.out (Nat.le_refl _)), ⟨rfl, Or.inl ⟨rfl, rfl⟩⟩, fun j v x hj => by simp at hj⟩
  case round =>
    obtain ⟨done, rest, vs, hb, hall, hlen, hS, ho, hvs⟩ := hrel
    obtain ⟨A1, c1, rfl, hc1⟩ := hS.form
    obtain ⟨A6, c6, rfl⟩ := own_slice ho
    have HB2 := Lib.hid hb
    have HAll := Lib.hid hall
    have HS := Lib.hid hS
    have HO := Lib.hid (And.intro ho hvs)
    have HIdx := Lib.hid (idx_any (hS.move (same_below hb (Nat.le_refl _))) (by omega))
    have hsz : W1.heap.size ≤ wr.heap.size := hb.size
    clear hb hall hS hvs ho
    go_wp2_with fail
    refine HIdx.out.mono ?_
    rintro e w2 ⟨rfl, nd, rfl⟩
    have ho : (wr.drewN nd).ownsRow W1.heap.size 22 1 (.slice A6 done.length c6) done.length vs := HO.out.1
    have hb2 : Below W1.heap.size W1 (wr.drewN nd) := HB2.out.trans (drawn_below.mono HB2.out.size)
    have hsz2 : W1.heap.size ≤ (wr.drewN nd).heap.size := hb2.size
    obtain ⟨w2, hw2⟩ : ∃ w2, wr.drewN nd = w2 := ⟨_, rfl⟩
    rw [hw2] at ho hb2 hsz2 ⊢
    have HO2 := Lib.hid ho
    have HB3 := Lib.hid hb2
    clear hw2 hb2
    cases hba : barAt rest with
    | none =>
      have hidx : idxM rest = -1 := by unfold idxM; rw [hba]
      have HBa := Lib.hid hba
      rw [hidx]
      clear hba hidx HIdx ho
      go_wp2_with (first | ((with_reducible refine gate_builtin (b := .append) (xs := #[.tmp 24, .tmp 26]) rfl ?_); at_builtin; refine print_append_cells (w0 := W1) (W := w2) W1.heap.size rfl (.tmp 24) (.tmp 26) 161 22 (.slice none 0 0) 1 24 rfl Tryz.underlying161 info22 rfl (by decide) (by omega) (.slice A6 done.length c6) done.length vs [.slice A1 rest.length c1] rfl rfl rfl ?aU ?aO ?aB ?aS ?aL ?_))
      case aU => simp [Value.oneCell']
      case aO => exact HO2.out
      case aB => exact HB3.out
      case aS => exact hsz2
      case aL => omega
      intro v1 w3 ho3 hb3 _ _
      have hrow := RdRel.ends HB3.out HO.out.2 HAll.out HBa.out HS.out ho3 hb3 (fun k hk => HOk.out k (by have := HZ1.out; omega))
      obtain ⟨g1, cap1, V0, hv1, hc0, hcap1, hS0, hRow⟩ := hrow
      subst hv1
      obtain ⟨A0, c0, hV0, hc0'⟩ := hS0.form
      subst hV0
      have H3 := Lib.hid (And.intro hb3 (And.intro hS0 hRow))
      have nw := World.new_ne w3 ⟨g1, 0, none⟩ hc0
      have hg1 : g1 < w3.heap.size := World.block_lt_of_cell? w3 ⟨g1, 0, none⟩ hc0
      have hg2 : ¬ (g1 = w3.heap.size) := by omega
      have hg3 : ¬ (w3.heap.size = g1) := by omega
      have hc1 : ∀ o, (w3.alloc o).cell? ⟨g1, 0, none⟩ = some (.slice A0 (barsM l).1.length c0) := fun o => (World.cell?_alloc_lt w3 o ⟨g1, 0, none⟩ hg1).trans hc0
      have hcap2 : (1 : Int) ≤ (cap1 : Int) := by omega
      have hcap3 : 1 ≤ cap1 := by omega
      clear ho3 hb3 hS0 hRow
      go_wp2_with fail
      go_cut [6, 8] (fun v6 v8 wc => RdCut ok W1 l v8 wc)
      case first =>
        by_cases hone : cap1 = 1
        · have hone2 : ((cap1 : Nat) : Int) = 1 := by omega
          go_region_with (fail)
          all_goals
            go_wp2
            go_meet
            case rel => exact RdCut.one H3.out.1 H3.out.2.1 H3.out.2.2 hone hcap1
        · have hone2 : ¬ (((cap1 : Nat) : Int) = 1) := by omega
          go_region_with (fail)
          all_goals
            go_wp2
            go_meet
            case rel => exact RdCut.more H3.out.1 H3.out.2.1 H3.out.2.2 hcap1
      case rest =>
        obtain ⟨q, A0, c0, A5, c5, rfl, hq, hq1, hb, h0, h5⟩ := hcut
        have hS : RdS ok w W1 l g q A0 A5 c0 c5 within wc := by
          obtain ⟨Ap, cp, hgb, _, _⟩ := HI.out
          have hr1 : W1.heap[w.heap.size]? = some (.cells #[.slice none 0 0, .slice none 0 0] 163) := by rw [← HW1.out]; exact heap_alloc_new _ _
          exact RdS.mk' hq (hb.block' hr1) (hb.block' (HB1.out.block' hgb)) hb h0 h5
        have HS4 := Lib.hid hS
        have hP := hS
        obtain ⟨k0, k1, k2, k3, k4, k5, k6⟩ := hP.cells
        clear hq hb h0 h5 hS hP
        have hsize := bars_len l hl
        have hm0 : ∀ b ∈ (barsM l).1, b.length ≤ 1000000 := fun b hb => hm2 b (bars_mem l _ (by unfold allBars; simp) b hb)
        have hm5 : ∀ f ∈ (barsM l).2, ∀ b ∈ f, b.length ≤ maxLen := fun f hf b hb => hm b (bars_mem l f (by unfold allBars; simp [hf]) b hb)
        have HM := Lib.hid (And.intro hm0 (And.intro hm5 hsize))
        clear hm0 hm5 hsize
        go_step
        go_wp2_with fail
        have HSd := Lib.hid (RowK.move (w' := wc.drew) HS4.out.s0 (fun k _ _ => rfl))
        have hst := stands_any HSd.out HM.out.2.2.1 HM.out.1 within
        obtain ⟨b1, hb1⟩ : ∃ b, standsM (barsM l).1 within = b := ⟨_, rfl⟩
        obtain ⟨b2, hb2⟩ : ∃ b, (barsM l).2.all filtersM = b := ⟨_, rfl⟩
        rw [hb1] at hst
        have HSt := Lib.hid hst
        have HB12 := Lib.hid (And.intro hb1 hb2)
        have hcf : ∀ nd5, Calls Tryz.prog 144 #[.slice A5 (barsM l).2.length c5, .func (.func 142) #[] #[]] (wc.drewN nd5) fun e w' => e = .returned (.bool (!b2)) ∧ Below (wc.drewN nd5).heap.size (wc.drewN nd5) w' := by
          intro nd5
          have h := contains_func (RowK.turn (w' := wc.drewN nd5) HS4.out.s5 (fun k _ _ => rfl)) HM.out.2.2.2 HM.out.2.1
          rw [hb2] at h
          exact h
        have HCf := Lib.hid hcf
        clear hst hb1 hb2 hcf
        have hg9 : ¬ w.heap.size = g := by
          obtain ⟨Ap, cp, hgb, _, _⟩ := HI.out
          intro e
          rw [← e, Array.getElem?_eq_none (Nat.le_refl _)] at hgb
          cases hgb
        have hq9 : ¬ w.heap.size = q := by
          have h1 : W1.heap.size = w.heap.size + 1 := by rw [← HW1.out]; simp
          omega
        refine wp_region_held_drew (S := fun wv : World => wv.cell? ⟨q, 0, none⟩ = some (.slice A0 (barsM l).1.length c0) ∧ wv.cell? ⟨q, 1, none⟩ = some (.slice A5 (barsM l).2.length c5) ∧ wv.cell? ⟨g, 3, none⟩ = some (.bool within)) (by kernel_rfl) ⟨k0, k1, k2⟩ (fun hHeld => ?_)
        refine wpAnyH_take (i := 0) (oi := _) (v := ?_) rfl (by kernel_rfl) (by kernel_rfl) (by kernel_rfl) (fun _ _ _ h => h) (Or.inl ⟨by rfl, ?_⟩) (by assumption) ?_
        rotate_left 1
        · intro w hSw; (try dsimp only at hSw); go_simp; (try with_reducible rfl)
        try simp only [Act.put, List.setIfInBounds_toArray, List.set_cons_zero, List.set_cons_succ, List.getElem_toArray, List.getElem_cons_zero, List.getElem_cons_succ]
        refine wpAnyH_take (i := 1) (oi := _) (v := ?_) rfl (by kernel_rfl) (by kernel_rfl) (by kernel_rfl) (fun _ _ _ h => h) (Or.inl ⟨by rfl, ?_⟩) (by assumption) ?_
        rotate_left 1
        · intro w hSw; (try dsimp only at hSw); go_simp; (try with_reducible rfl)
        try simp only [Act.put, List.setIfInBounds_toArray, List.set_cons_zero, List.set_cons_succ, List.getElem_toArray, List.getElem_cons_zero, List.getElem_cons_succ]
        refine wpAnyH_take (i := 2) (oi := _) (v := ?_) rfl (by kernel_rfl) (by kernel_rfl) (by kernel_rfl) (fun _ _ _ h => h) (Or.inl ⟨by rfl, ?_⟩) (by assumption) ?_
        rotate_left 1
        · intro w hSw; (try dsimp only at hSw); go_simp; (try with_reducible rfl)
        try simp only [Act.put, List.setIfInBounds_toArray, List.set_cons_zero, List.set_cons_succ, List.getElem_toArray, List.getElem_cons_zero, List.getElem_cons_succ]
        refine wpAnyH_take (i := 3) (oi := _) (v := ?_) rfl (by kernel_rfl) (by kernel_rfl) (by kernel_rfl) (fun _ _ _ h => h) (Or.inl ⟨by rfl, ?_⟩) (by assumption) ?_
        rotate_left 1
        · intro w hSw; (try dsimp only at hSw); go_simp; (try with_reducible rfl)
        try simp only [Act.put, List.setIfInBounds_toArray, List.set_cons_zero, List.set_cons_succ, List.getElem_toArray, List.getElem_cons_zero, List.getElem_cons_succ]
        refine wpAnyH_take (i := 4) (oi := _) (v := ?_) rfl (by kernel_rfl) (by kernel_rfl) (by kernel_rfl) (fun _ _ _ h => h) (Or.inl ⟨by rfl, ?_⟩) (by assumption) ?_
        rotate_left 1
        · intro w hSw; (try dsimp only at hSw); go_simp; (try with_reducible rfl)
        try simp only [Act.put, List.setIfInBounds_toArray, List.set_cons_zero, List.set_cons_succ, List.getElem_toArray, List.getElem_cons_zero, List.getElem_cons_succ]
        refine wpAnyH_take (i := 5) (oi := _) (v := ?_) rfl (by kernel_rfl) (by kernel_rfl) (by kernel_rfl) (fun _ _ _ h => h) (Or.inl ⟨by rfl, ?_⟩) (by assumption) ?_
        rotate_left 1
        · intro w hSw; (try dsimp only at hSw); go_simp; (try with_reducible rfl)
        try simp only [Act.put, List.setIfInBounds_toArray, List.set_cons_zero, List.set_cons_succ, List.getElem_toArray, List.getElem_cons_zero, List.getElem_cons_succ]
        refine wpAnyH_take (i := 6) (oi := _) (v := ?_) rfl (by kernel_rfl) (by kernel_rfl) (by kernel_rfl) (fun _ _ _ h => h) (Or.inl ⟨by rfl, ?_⟩) (by assumption) ?_
        rotate_left 1
        · intro w hSw; (try dsimp only at hSw); go_simp; (try with_reducible rfl)
        try simp only [Act.put, List.setIfInBounds_toArray, List.set_cons_zero, List.set_cons_succ, List.getElem_toArray, List.getElem_cons_zero, List.getElem_cons_succ]
        refine wpAnyH_ready (rs := [7]) (by kernel_rfl) (by simp) ?_
        refine AllReadyH.cons (o := _) rfl (fun K hK => ?_) AllReadyH.nil
        go_simp
        refine HSt.out.mono ?_
        rintro e w5 ⟨rfl, nd5, rfl⟩
        refine hK.out _ _ ⟨k0, k1, k2⟩ (fun hHeld => ?_)
        clear hK K
        cases b1
        · skip
          refine wpAnyH_take (i := 8) (oi := _) (v := ?_) rfl (by kernel_rfl) (by kernel_rfl) (by kernel_rfl) (fun _ _ _ h => h) (Or.inl ⟨by rfl, ?_⟩) (by assumption) ?_
          rotate_left 1
          · intro w hSw; (try dsimp only at hSw); go_simp; (try with_reducible rfl)
          try simp only [Act.put, List.setIfInBounds_toArray, List.set_cons_zero, List.set_cons_succ, List.getElem_toArray, List.getElem_cons_zero, List.getElem_cons_succ]
          refine wpAnyH_take (i := 9) (oi := _) (v := _) rfl (by kernel_rfl) (by kernel_rfl) (by kernel_rfl) (fun _ _ _ h => h) (Or.inr ⟨by rfl, rfl⟩) (by assumption) ?_
          try simp only [Act.put, List.setIfInBounds_toArray, List.set_cons_zero, List.set_cons_succ, List.getElem_toArray, List.getElem_cons_zero, List.getElem_cons_succ]
          refine wpAnyH_take (i := 10) (oi := _) (v := _) rfl (by kernel_rfl) (by kernel_rfl) (by kernel_rfl) (fun _ _ _ h => h) (Or.inr ⟨by rfl, rfl⟩) (by assumption) ?_
          try simp only [Act.put, List.setIfInBounds_toArray, List.set_cons_zero, List.set_cons_succ, List.getElem_toArray, List.getElem_cons_zero, List.getElem_cons_succ]
          refine wpAnyH_take (i := 11) (oi := _) (v := _) rfl (by kernel_rfl) (by kernel_rfl) (by kernel_rfl) (fun _ _ _ h => h) (Or.inr ⟨by rfl, rfl⟩) (by assumption) ?_
          try simp only [Act.put, List.setIfInBounds_toArray, List.set_cons_zero, List.set_cons_succ, List.getElem_toArray, List.getElem_cons_zero, List.getElem_cons_succ]
          refine wpAnyH_take (i := 12) (oi := _) (v := _) rfl (by kernel_rfl) (by kernel_rfl) (by kernel_rfl) (fun _ _ _ h => h) (Or.inr ⟨by rfl, rfl⟩) (by assumption) ?_
          try simp only [Act.put, List.setIfInBounds_toArray, List.set_cons_zero, List.set_cons_succ, List.getElem_toArray, List.getElem_cons_zero, List.getElem_cons_succ]
          refine wpAnyH_take (i := 13) (oi := _) (v := _) rfl (by kernel_rfl) (by kernel_rfl) (by kernel_rfl) (fun _ _ _ h => h) (Or.inr ⟨by rfl, rfl⟩) (by assumption) ?_
          try simp only [Act.put, List.setIfInBounds_toArray, List.set_cons_zero, List.set_cons_succ, List.getElem_toArray, List.getElem_cons_zero, List.getElem_cons_succ]
          refine wpAnyH_take (i := 14) (oi := _) (v := ?_) rfl (by kernel_rfl) (by kernel_rfl) (by kernel_rfl) (fun _ _ _ h => h) (Or.inl ⟨by rfl, ?_⟩) (by assumption) ?_
          rotate_left 1
          · intro w hSw; (try dsimp only at hSw); go_simp; (try with_reducible rfl)
          try simp only [Act.put, List.setIfInBounds_toArray, List.set_cons_zero, List.set_cons_succ, List.getElem_toArray, List.getElem_cons_zero, List.getElem_cons_succ]
          refine wpAnyH_ready (rs := [15]) (by kernel_rfl) (by simp) ?_
          refine AllReadyH.cons (o := _) rfl (fun K hK => ?_) AllReadyH.nil
          go_simp
          refine hK.out _ _ ⟨by simp [World.cell?_setCell_far, *], by simp [World.cell?_setCell_far, *], by simp [World.cell?_setCell_far, *]⟩ (fun hHeld => ?_)
          clear hK K
          refine wpAnyH_take (i := 16) (oi := _) (v := ?_) rfl (by kernel_rfl) (by kernel_rfl) (by kernel_rfl) (fun _ _ _ h => h) (Or.inl ⟨by rfl, ?_⟩) (by assumption) ?_
          rotate_left 1
          · intro w hSw; (try dsimp only at hSw); go_simp; (try with_reducible rfl)
          try simp only [Act.put, List.setIfInBounds_toArray, List.set_cons_zero, List.set_cons_succ, List.getElem_toArray, List.getElem_cons_zero, List.getElem_cons_succ]
          refine wpAnyH_done (by kernel_rfl) ?_ _
          go_wp2_with fail
          obtain ⟨z0, z2, z3, z4⟩ := (HS4.out.later (wx := w) (drawn_below (n := 1 + nd5))).fin hnk HB1.out
          refine bodyPost_ret (results_ct rfl _ _ w.heap.size 163 #[.slice A0 (barsM l).1.length c0, .slice A5 (barsM l).2.length c5] (0, 0) _ rfl z0 Tryz.underlying163 rfl (by kernel_rfl)) rfl ⟨_, _, by rw [← hstd, HB12.out.1, HB12.out.2]; rfl, z2, z3, z4⟩
        · skip
          refine wpAnyH_take (i := 8) (oi := _) (v := ?_) rfl (by kernel_rfl) (by kernel_rfl) (by kernel_rfl) (fun _ _ _ h => h) (Or.inl ⟨by rfl, ?_⟩) (by assumption) ?_
          rotate_left 1
          · intro w hSw; (try dsimp only at hSw); go_simp; (try with_reducible rfl)
          try simp only [Act.put, List.setIfInBounds_toArray, List.set_cons_zero, List.set_cons_succ, List.getElem_toArray, List.getElem_cons_zero, List.getElem_cons_succ]
          refine wpAnyH_take (i := 9) (oi := _) (v := ?_) rfl (by kernel_rfl) (by kernel_rfl) (by kernel_rfl) (fun _ _ _ h => h) (Or.inl ⟨by rfl, ?_⟩) (by assumption) ?_
          rotate_left 1
          · intro w hSw; (try dsimp only at hSw); go_simp; (try with_reducible rfl)
          try simp only [Act.put, List.setIfInBounds_toArray, List.set_cons_zero, List.set_cons_succ, List.getElem_toArray, List.getElem_cons_zero, List.getElem_cons_succ]
          refine wpAnyH_take (i := 10) (oi := _) (v := ?_) rfl (by kernel_rfl) (by kernel_rfl) (by kernel_rfl) (fun _ _ _ h => h) (Or.inl ⟨by rfl, ?_⟩) (by assumption) ?_
          rotate_left 1
          · intro w hSw; (try dsimp only at hSw); go_simp; (try with_reducible rfl)
          try simp only [Act.put, List.setIfInBounds_toArray, List.set_cons_zero, List.set_cons_succ, List.getElem_toArray, List.getElem_cons_zero, List.getElem_cons_succ]
          refine wpAnyH_take (i := 11) (oi := _) (v := ?_) rfl (by kernel_rfl) (by kernel_rfl) (by kernel_rfl) (fun _ _ _ h => h) (Or.inl ⟨by rfl, ?_⟩) (by assumption) ?_
          rotate_left 1
          · intro w hSw; (try dsimp only at hSw); go_simp; (try with_reducible rfl)
          try simp only [Act.put, List.setIfInBounds_toArray, List.set_cons_zero, List.set_cons_succ, List.getElem_toArray, List.getElem_cons_zero, List.getElem_cons_succ]
          refine wpAnyH_ready (rs := [12]) (by kernel_rfl) (by simp) ?_
          refine AllReadyH.cons (o := _) rfl (fun K hK => ?_) AllReadyH.nil
          go_simp
          refine (HCf.out (1 + nd5)).mono ?_
          rintro e w6 ⟨rfl, hb6⟩
          have hb7 : Below wc.heap.size wc w6 := (drawn_below (n := 1 + nd5)).trans (hb6.mono (Nat.le_refl _))
          have HS6 := Lib.hid (HS4.out.later (wx := w) hb7)
          obtain ⟨k0, k1, k2, k3, k4, k5, k6⟩ := HS6.out.cells
          have HB7 := Lib.hid hb7
          clear hb6 hb7 hHeld
          refine hK.out _ _ ⟨k0, k1, k2⟩ (fun hHeld => ?_)
          clear hK K
          refine wpAnyH_take (i := 13) (oi := _) (v := ?_) rfl (by kernel_rfl) (by kernel_rfl) (by kernel_rfl) (fun _ _ _ h => h) (Or.inl ⟨by rfl, ?_⟩) (by assumption) ?_
          rotate_left 1
          · intro w hSw; (try dsimp only at hSw); go_simp; (try with_reducible rfl)
          try simp only [Act.put, List.setIfInBounds_toArray, List.set_cons_zero, List.set_cons_succ, List.getElem_toArray, List.getElem_cons_zero, List.getElem_cons_succ]
          refine wpAnyH_take (i := 14) (oi := _) (v := ?_) rfl (by kernel_rfl) (by kernel_rfl) (by kernel_rfl) (fun _ _ _ h => h) (Or.inl ⟨by rfl, ?_⟩) (by assumption) ?_
          rotate_left 1
          · intro w hSw; (try dsimp only at hSw); go_simp; (try with_reducible rfl)
          try simp only [Act.put, List.setIfInBounds_toArray, List.set_cons_zero, List.set_cons_succ, List.getElem_toArray, List.getElem_cons_zero, List.getElem_cons_succ]
          refine wpAnyH_ready (rs := [15]) (by kernel_rfl) (by simp) ?_
          refine AllReadyH.cons (o := _) rfl (fun K hK => ?_) AllReadyH.nil
          go_simp
          refine hK.out _ _ ⟨by simp [World.cell?_setCell_far, *], by simp [World.cell?_setCell_far, *], by simp [World.cell?_setCell_far, *]⟩ (fun hHeld => ?_)
          clear hK K
          refine wpAnyH_take (i := 16) (oi := _) (v := ?_) rfl (by kernel_rfl) (by kernel_rfl) (by kernel_rfl) (fun _ _ _ h => h) (Or.inl ⟨by rfl, ?_⟩) (by assumption) ?_
          rotate_left 1
          · intro w hSw; (try dsimp only at hSw); go_simp; (try with_reducible rfl)
          try simp only [Act.put, List.setIfInBounds_toArray, List.set_cons_zero, List.set_cons_succ, List.getElem_toArray, List.getElem_cons_zero, List.getElem_cons_succ]
          refine wpAnyH_done (by kernel_rfl) ?_ _
          go_wp2_with fail
          obtain ⟨z0, z2, z3, z4⟩ := (HS4.out.later (wx := w) (HB7.out)).fin hnk HB1.out
          refine bodyPost_ret (results_ct rfl _ _ w.heap.size 163 #[.slice A0 (barsM l).1.length c0, .slice A5 (barsM l).2.length c5] (0, 0) _ rfl z0 Tryz.underlying163 rfl (by kernel_rfl)) rfl ⟨_, _, by rw [← hstd, HB12.out.1, HB12.out.2]; rfl, z2, z3, z4⟩
    | some i =>
      have hidx : idxM rest = i := by unfold idxM; rw [hba]
      have HBa := Lib.hid hba
      have hi := (barAt_some hba).1
      rw [hidx]
      clear hba hidx HIdx
      have hi0 : (0 : Int) ≤ (i : Int) := by omega
      have hi1 : ¬ ((i : Int) < 0) := by omega
      have hi2 : (i : Int) < (rest.length : Int) := by omega
      have hi3 : (i : Int) ≤ (c1 : Int) := by omega
      have hi4 : (i : Int) + 1 ≤ (rest.length : Int) := by omega
      have hi5 : (0 : Int) ≤ (i : Int) + 1 := by omega
      have hi6 : i ≤ c1 := by omega
      have hA : ∃ ad1, A1 = some ad1 := by
        obtain ⟨ad1, cc, vv, eA, _, _, _⟩ := HS.out.at hi
        injection eA with eA _ _
        exact ⟨_, eA⟩
      obtain ⟨ad1, rfl⟩ := hA
      obtain ⟨i0, hi00, hz⟩ := Option.map_eq_some_iff.1 info22
      simp only [Prod.mk.injEq] at hz
      obtain ⟨iz0, iz1, iz2⟩ := hz
      go_upto_region 4 with (fail)
      have hwi : IntKind.i64.wrap ((i : Int) + 1) = (i : Int) + 1 := by rw [IntKind.wrap_i64]; omega
      go_region_law (refine step_append_lies _ (by rfl) _ _ _ (by rfl) W1.heap.size 22 i0 _ 1 24 Tryz.underlying161 hi00 iz0 iz1 iz2 rfl (by omega) (.slice A6 done.length c6) done.length vs (by rfl) ((ho.alloc _).drew) ⟨w2.heap.size, 0, none⟩ 1 1 [.slice (some ad1) i c1] (by rfl) (by rfl) (World.news_of_block (cs := #[.slice (some ad1) i c1]) (t := 22) (fr := (0, 0)) (heap_alloc_new w2 _)) (by simp [Value.oneCell']) (by omega) (by unfold maxLen; omega) (by omega) (by simp; omega) (w2.heap.size + 1) (by simp) ?_; intro g6 cap6 w3 hown3 hgrow3 hat3 hlt3)
      have H3 := Lib.hid (And.intro hown3 (And.intro hgrow3 hat3))
      clear hown3 hgrow3 hat3 ho
      have HAf := Lib.hid (HS.out.after hi)
      go_wp2
      · go_roundw
        case rel =>
          refine RdRel.step hi HB3.out HO2.out HO.out.2 HAll.out HBa.out hlen HS.out H3.out.1 H3.out.2.1 ?_
          rw [show rest.length - (i + 1) = 0 by omega]
          exact RowK.ended _ _ _ _ _ (by omega)
        case measure => first | omega | (simp; omega)
      · go_roundw
        case rel =>
          refine RdRel.step hi HB3.out HO2.out HO.out.2 HAll.out HBa.out hlen HS.out H3.out.1 H3.out.2.1 ?_
          have h := HAf.out
          rw [if_neg (by assumption)] at h
          exact h
        case measure => first | omega | (simp; omega)
theorem RowK.old {α : Type} {ok : Nat → Prop} {w : World} {P : Value → α → Prop} {V : Value} {l : List α} (h : RowK ok w P V l) : RowK (fun k => ok k ∧ k < w.heap.size) w P V l :=
  ⟨h.form, fun j x hj => by
    obtain ⟨ad, n, c, v, e, h1, hc, hv⟩ := h.cells j x hj
    exact ⟨ad, n, c, v, e, ⟨h1, by have := World.block_lt_of_cell? w _ hc; rwa [add_block] at this⟩, hc, hv⟩⟩
theorem read_any {ok : Nat → Prop} {w0 w : World} {g : Nat} {toks : List S129} {at_ deep wrong : Int} {within : Bool} (hI : IsS106 w0 w g toks at_ deep within wrong) {V : Value} {l : List Bytes} (hV : SsK ok w V l) (hl : l.length ≤ 4097)
    (hok : ∀ k, w.heap.size ≤ k → ok k) (hm2 : ∀ b ∈ l, b.length ≤ 1000000) : Calls Tryz.prog 118 #[.pointer (some ⟨g, 0, none⟩), V] w (RdPost ok w l within (standsM (barsM l).1 within && (barsM l).2.all filtersM)) := by
  refine (read_core (ok := fun k => ok k ∧ k ≠ w.heap.size) hI ((RowK.old hV).mono fun k h => ⟨h.1, by omega⟩) hl (fun k h => ⟨hok k (by omega), by omega⟩) (by simp) (fun b hb => by have := hm2 b hb; unfold maxLen; omega) hm2 _ rfl).mono ?_
  rintro e w' ⟨V0, V1, rfl, hb, h0, h1⟩
  exact ⟨V0, V1, rfl, hb, RowK.mono h0 (fun k h => h.1), (RowK.mono h1 (fun k h => h.1)).imp (fun v x _ hv => RowK.mono hv (fun k h => h.1))⟩
end Go.Proofs.YtllhpkpckjacfaaGreatDoor
