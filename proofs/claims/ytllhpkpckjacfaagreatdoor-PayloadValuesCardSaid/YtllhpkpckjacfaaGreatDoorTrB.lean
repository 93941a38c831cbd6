/- template's rendering: a place's value. -/
import Derived.Test.YtllhpkpckjacfaaGreatDoorTrA
namespace Go.Proofs.YtllhpkpckjacfaaGreatDoor
open Go.RowKit Go.Proofs.YtllhpkpckjacfaaGreatDoorW.PrintWords PTemplateFilters
set_option linter.unusedVariables false
set_option linter.unusedSimpArgs false

theorem RunK.row {w0 w : World} {b : Nat} {pre : List Value} {al : List S40} {l : Bytes} {m : MsgM} (h : RunK w0 w b pre al l) (hM : MsgC w0 m pre) :
    ∃ p v Va idx Vg Vf Vr, w.heap[b]? = some (.cells #[.string (str m.recv), .string (str m.key), Vg, Vf, Vr, p, v, Va, .int .i64 idx] 115 (0, 0)) ∧ PairsC w0 Vg m.group ∧ ListsC w0 Vf m.firing ∧ ListsC w0 Vr m.resolved ∧ PairsC w0 Va al := by
  obtain ⟨Va, idx, hA, p, v, hp, hW⟩ := h.wb
  obtain ⟨Vg, Vf, Vr, rfl, hg, hf, hr⟩ := hM
  exact ⟨p, v, Va, idx, Vg, Vf, Vr, hW.row, hg, hf, hr, hA⟩
theorem list_any {w0 w : World} {b : Nat} {pre : List Value} {al : List S40} {l : Bytes} {m : MsgM} (h : RunK w0 w b pre al l) (hM : MsgC w0 m pre) (s : Bytes) :
    Calls Tryz.prog 133 #[.pointer (some ⟨b, 0, none⟩), .string (str s)] w fun e w' => ∃ V, e = .returned V ∧ ListsC w0 V (listsM m s) ∧ Below w.heap.size w w' := by
  obtain ⟨p, v, Va, idx, Vg, Vf, Vr, hb, _, hf, hr, _⟩ := h.row hM
  have c3 : w.cell? ⟨b, 3, none⟩ = some Vf := (blk_cell hb 3).trans rfl
  have c4 : w.cell? ⟨b, 4, none⟩ = some Vr := (blk_cell hb 4).trans rfl
  have HF := Lib.hid (And.intro hf hr)
  clear hb hf hr
  by_cases hs : s = wFiring
  · have hb1 : ((str s).toList == [102, 105, 114, 105, 110, 103]) = true := by rw [str_tl, hs]; rfl
    have hl : listsM m s = m.firing := by unfold listsM; rw [if_pos hs]
    rw [hl]
    clear hs hl
    go_enter Tryz.func133, Tryz.ntmps133
    go_wp2
    go_ret
    exact ⟨_, rfl, HF.out.1, by first | exact Below.refl _ _ | exact below_drew (Below.refl _ _)⟩
  · have hb1 : ((str s).toList == [102, 105, 114, 105, 110, 103]) = false := by rw [str_tl, beq_eq_false_iff_ne]; exact hs
    have hl : listsM m s = m.resolved := by unfold listsM; rw [if_neg hs]
    rw [hl]
    clear hs hl
    go_enter Tryz.func133, Tryz.ntmps133
    go_wp2
    go_ret
    exact ⟨_, rfl, HF.out.2, by first | exact Below.refl _ _ | exact below_drew (Below.refl _ _)⟩
theorem get_l0 (n : Bytes) (l : List S40) : ∀ (b a : List S40), l = a ++ b → l.length ≤ 9223372036854775807 → label_Get.l0 (b.length + 1) (str n) l (l.length : Int) (a.length : Int) = some (str (getM b n))
  | [], a, h, hl => by
    subst h
    simp [label_Get.l0, getM]
    rfl
  | p :: b, a, h, hl => by
    have hlt : a.length < l.length := by rw [h]; simp
    have hp : rd_T40 l (a.length : Int) = p := by subst h; simp [rd_T40]
    have ih := get_l0 n l b (a ++ [p]) (by rw [h]; simp) hl
    rw [List.length_cons, label_Get.l0, if_pos (by omega), if_pos (by omega), if_pos (by omega), hp, getM]
    have e1 : p.f0.toList = bts p.f0 := by unfold bts; exact ByteArray.toList_eq _
    rw [e1, str_tl]
    by_cases hn : bts p.f0 = n
    · rw [if_pos hn, if_pos hn]; simp [bts, str]
    · rw [if_neg hn, if_neg hn]
      have hw : wrap64 ((a.length : Int) + 1) = ((a ++ [p]).length : Int) := by rw [w64_in _ (by omega)]; simp
      rw [hw]
      exact ih
theorem get_any {w : World} {V : Value} {l : List S40} (h : PairsC w V l) (n : Bytes) : Calls Tryz.prog 154 #[V, .string (str n)] w fun e w' => e = .returned (.string (str (getM l n))) ∧ Below w.heap.size w w' := by
  obtain ⟨A, c, rfl, hc, hC⟩ := h
  exact label_Get.calls (l.length + 1) A c l (str n) _ w hC hc (get_l0 n l l [] rfl hC.2.1)
/-- What the filters' loop keeps. -/
def VaRel (W1 : World) (fl : List (List Bytes)) (out : Bytes) (v6 v72 : Value) (wr : World) : Prop :=
  ∃ (s : Bytes) (j : Nat), v6 = .string (str s) ∧ v72 = .int .i64 j ∧ j ≤ fl.length ∧ s.length ≤ 65536 ∧ filtM s (fl.drop j) = (out, 0) ∧ Below W1.heap.size W1 wr
set_option maxRecDepth 100000 in
set_option maxHeartbeats 800000 in
theorem value_any {w0 w : World} (hT : Tabs w0) {b : Nat} {pre : List Value} {al : List S40} {l : Bytes} {m : MsgM} (h : RunK w0 w b pre al l) (hM : MsgC w0 m pre) {V0 V1 : Value} {a : List Bytes} {fl : List (List Bytes)} (h0 : SsK (fun _ => True) w0 V0 a) (h1 : RowK (fun _ => True) w0 (fun v x => SsK (fun _ => True) w0 v x) V1 fl) (hg : goodP m al a fl) :
    Calls Tryz.prog 132 #[.pointer (some ⟨b, 0, none⟩), .agg #[V0, V1]] w fun e w' => e = .returned (.tuple #[.string (str (plM m al a fl)), .int .i64 0]) ∧ Below w.heap.size w w' := by
  obtain ⟨p, v, Va, idx, Vg, Vf, Vr, hb, hVg, hf, hr, hVa⟩ := h.row hM
  obtain ⟨A0, c0, rfl, hc0⟩ := h0.form
  obtain ⟨A1, c1, rfl, hc1⟩ := h1.form
  have hva : ∃ a0 r, a = a0 :: r := by
    have hv := hg.1
    cases a with
    | nil => simp [valB] at hv
    | cons a0 r => exact ⟨a0, r, rfl⟩
  obtain ⟨a0, r, ha⟩ := hva
  have HA := Lib.hid ha
  clear ha
  go_enter Tryz.func132, Tryz.ntmps132
  go_upto_region 3 with (fail)
  have hbx := heap_alloc_new w (.cells #[.slice A0 a.length c0, .slice A1 fl.length c1] 163)
  generalize hW1 : w.alloc _ = W1 at hbx ⊢
  have HBx := Lib.hid hbx
  clear hbx
  have hb1 : Below w.heap.size w W1 := by rw [← hW1]; exact below_alloc (Below.refl _ _) _
  have hR1 := h.below hb1
  obtain ⟨ad, hA0, x0, x1⟩ := words_at (RowK.move h0 (same_below hR1.bel (Nat.le_refl _))) HA.out
  subst hA0
  have hlc : (0 : Int) < (a.length : Int) := by rw [HA.out]; simp
  have hlcc : a.length ≤ c0 := by obtain ⟨_, _, e, h⟩ := h0.form; cases e; exact h
  have HR1 := Lib.hid hR1
  have HB1 := Lib.hid hb1
  have H0 := Lib.hid (And.intro h0 h1)
  have HG := Lib.hid hg
  clear hR1 hb1 h0 h1 hg h hb hf hr hVg hVa hW1
  go_cut [15] (fun v15 wx => v15 = .string (str a0) ∧ wx = W1)
  case first =>
    go_wp2
    go_meet
    case rel => exact ⟨rfl, rfl⟩
  case rest =>
    obtain ⟨rfl, hwx⟩ := hcut
    rw [hwx]
    clear hwx
    go_step
    go_cut [6] (fun v6 wx => v6 = .string (str (valM m al a)) ∧ Below W1.heap.size W1 wx)
    case first =>
      obtain ⟨p, v, Va, idx, Vg, Vf, Vr, hb, hVg, hf, hr, hVa⟩ := HR1.out.row hM
      have d0 : W1.cell? ⟨b, 0, none⟩ = some (.string (str m.recv)) := (blk_cell hb 0).trans rfl
      have d2 : W1.cell? ⟨b, 2, none⟩ = some Vg := (blk_cell hb 2).trans rfl
      have d7 : W1.cell? ⟨b, 7, none⟩ = some Va := (blk_cell hb 7).trans rfl
      have hv := HG.out.1
      obtain ⟨Ag, cg, rfl, hcg, hCg⟩ := hVg
      obtain ⟨Aa, ca, rfl, hca, hCa⟩ := hVa
      clear hb hf hr
      rw [HA.out] at hv
      cases r with
      | nil =>
        have e0 : a0 = wReceiver := by simpa [valB] using hv
        have hb1 : ((str a0).toList == [114, 101, 99, 101, 105, 118, 101, 114]) = true := by rw [str_tl, e0]; rfl
        have HV := Lib.hid (show valM m al a = m.recv by rw [HA.out, e0]; simp [valM])
        clear e0 hv
        go_wp2
        go_meet
        case rel => exact ⟨by rw [HV.out], Below.refl _ _⟩
      | cons y r2 =>
        cases r2 with
        | cons z r3 => simp [valB] at hv
        | nil =>
          have hl2 : (1 : Int) < (a.length : Int) := by rw [HA.out]; simp
          have hx1 := x1 y rfl
          replace hv : (a0 == wGroup || a0 == wLabel) = true := hv
          have hb1 : ((str a0).toList == [114, 101, 99, 101, 105, 118, 101, 114]) = false := by
            rw [str_tl, beq_eq_false_iff_ne]
            intro e
            subst e
            exact absurd hv (by decide)
          have hb2 : ((str a0).toList == [107, 101, 121]) = false := by
            rw [str_tl, beq_eq_false_iff_ne]
            intro e
            subst e
            exact absurd hv (by decide)
          have hb3 : ((str a0).toList == [111, 112, 101, 110]) = false := by
            rw [str_tl, beq_eq_false_iff_ne]
            intro e
            subst e
            exact absurd hv (by decide)
          have hb4 : ((str a0).toList == [105, 110, 100, 101, 120]) = false := by
            rw [str_tl, beq_eq_false_iff_ne]
            intro e
            subst e
            exact absurd hv (by decide)
          by_cases eg : a0 = wGroup
          · have hb5 : ((str a0).toList == [103, 114, 111, 117, 112]) = true := by rw [str_tl, eg]; rfl
            have HV := Lib.hid (show valM m al a = getM m.group y by rw [HA.out, eg]; simp [valM])
            have HGet := Lib.hid (get_any (w := W1.drew) ⟨Ag, cg, rfl, hcg, Kd.C_below hCg (HR1.out.bel.trans ((below_drew (Below.refl _ _)).mono HR1.out.bel.size))⟩ y)
            clear eg hv
            go_upto_region 13 with (fail)
            refine wp_region_held_drew (S := fun wv : World => wv.cell? ⟨b, 2, none⟩ = some (.slice Ag m.group.length cg) ∧ wv.cell? ⟨ad.block, ad.off + 1, none⟩ = some (.string (str y))) (by kernel_rfl) ⟨d2, hx1⟩ (fun hHeld => ?_)
            refine wpAnyH_take (i := 0) (oi := _) (v := ?_) rfl (by kernel_rfl) (by kernel_rfl) (by kernel_rfl) (fun _ _ _ h => h) (Or.inl ⟨by rfl, ?_⟩) (by assumption) ?_
            rotate_left 1
            · intro w hSw; (try dsimp only at hSw); go_simp; (try with_reducible rfl)
            try simp only [Act.put, List.setIfInBounds_toArray, List.set_cons_zero, List.set_cons_succ, List.getElem_toArray, List.getElem_cons_zero, List.getElem_cons_succ]
            refine wpAnyH_take (i := 1) (oi := _) (v := ?_) rfl (by kernel_rfl) (by kernel_rfl) (by kernel_rfl) (fun _ _ _ h => h) (Or.inl ⟨by rfl, ?_⟩) (by assumption) ?_
            rotate_left 1
            · intro w hSw; (try dsimp only at hSw); go_simp; (try with_reducible rfl)
            try simp only [Act.put, List.setIfInBounds_toArray, List.set_cons_zero, List.set_cons_succ, List.getElem_toArray, List.getElem_cons_zero, List.getElem_cons_succ]
            refine wpAnyH_take (i := 2) (oi := _) (v := ?_) rfl (by kernel_rfl) (by kernel_rfl) (by kernel_rfl) (fun _ _ _ h => h) (Or.inl ⟨by rfl, ?_⟩) (by assumption) ?_
            rotate_left 1
            · intro w hSw; (try dsimp only at hSw); go_simp; (try with_reducible rfl)
            try simp only [Act.put, List.setIfInBounds_toArray, List.set_cons_zero, List.set_cons_succ, List.getElem_toArray, List.getElem_cons_zero, List.getElem_cons_succ]
            refine wpAnyH_take (i := 3) (oi := _) (v := ?_) rfl (by kernel_rfl) (by kernel_rfl) (by kernel_rfl) (fun _ _ _ h => h) (Or.inl ⟨by rfl, ?_⟩) (by assumption) ?_
            rotate_left 1
            · intro w hSw; (try dsimp only at hSw); go_simp; (try with_reducible rfl)
            try simp only [Act.put, List.setIfInBounds_toArray, List.set_cons_zero, List.set_cons_succ, List.getElem_toArray, List.getElem_cons_zero, List.getElem_cons_succ]
            refine wpAnyH_take (i := 4) (oi := _) (v := ?_) rfl (by kernel_rfl) (by kernel_rfl) (by kernel_rfl) (fun _ _ _ h => h) (Or.inl ⟨by rfl, ?_⟩) (by assumption) ?_
            rotate_left 1
            · intro w hSw; (try dsimp only at hSw); go_simp; (try with_reducible rfl)
            try simp only [Act.put, List.setIfInBounds_toArray, List.set_cons_zero, List.set_cons_succ, List.getElem_toArray, List.getElem_cons_zero, List.getElem_cons_succ]
            refine wpAnyH_take (i := 5) (oi := _) (v := ?_) rfl (by kernel_rfl) (by kernel_rfl) (by kernel_rfl) (fun _ _ _ h => h) (Or.inl ⟨by rfl, ?_⟩) (by assumption) ?_
            rotate_left 1
            · intro w hSw; (try dsimp only at hSw); go_simp; (try with_reducible rfl)
            try simp only [Act.put, List.setIfInBounds_toArray, List.set_cons_zero, List.set_cons_succ, List.getElem_toArray, List.getElem_cons_zero, List.getElem_cons_succ]
            refine wpAnyH_take (i := 6) (oi := _) (v := ?_) rfl (by kernel_rfl) (by kernel_rfl) (by kernel_rfl) (fun _ _ _ h => h) (Or.inl ⟨by rfl, ?_⟩) (by assumption) ?_
            rotate_left 1
            · intro w hSw; (try dsimp only at hSw); go_simp; (try with_reducible rfl)
            try simp only [Act.put, List.setIfInBounds_toArray, List.set_cons_zero, List.set_cons_succ, List.getElem_toArray, List.getElem_cons_zero, List.getElem_cons_succ]
            refine wpAnyH_take (i := 7) (oi := _) (v := ?_) rfl (by kernel_rfl) (by kernel_rfl) (by kernel_rfl) (fun _ _ _ h => h) (Or.inl ⟨by rfl, ?_⟩) (by assumption) ?_
            rotate_left 1
            · intro w hSw; (try dsimp only at hSw); go_simp; (try with_reducible rfl)
            try simp only [Act.put, List.setIfInBounds_toArray, List.set_cons_zero, List.set_cons_succ, List.getElem_toArray, List.getElem_cons_zero, List.getElem_cons_succ]
            refine wpAnyH_ready (rs := [8]) (by kernel_rfl) (by simp) ?_
            refine AllReadyH.cons (o := _) rfl (fun K hK => ?_) AllReadyH.nil
            go_simp
            refine HGet.out.mono ?_
            rintro e w3 ⟨rfl, hb3⟩
            refine hK.out _ _ ⟨pw_cell_below hb3 d2, pw_cell_below hb3 hx1⟩ (fun hHeld => ?_)
            clear hK K
            refine wpAnyH_take (i := 9) (oi := _) (v := ?_) rfl (by kernel_rfl) (by kernel_rfl) (by kernel_rfl) (fun _ _ _ h => h) (Or.inl ⟨by rfl, ?_⟩) (by assumption) ?_
            rotate_left 1
            · intro w hSw; (try dsimp only at hSw); go_simp; (try with_reducible rfl)
            try simp only [Act.put, List.setIfInBounds_toArray, List.set_cons_zero, List.set_cons_succ, List.getElem_toArray, List.getElem_cons_zero, List.getElem_cons_succ]
            refine wpAnyH_done (by kernel_rfl) ?_ _
            go_wp2
            go_meet
            case rel => exact ⟨by rw [HV.out], (below_drew (Below.refl _ _)).trans hb3⟩
          · have el : a0 = wLabel := by simpa [eg] using hv
            have hb5 : ((str a0).toList == [103, 114, 111, 117, 112]) = false := by rw [str_tl, beq_eq_false_iff_ne]; exact eg
            have hb6 : ((str a0).toList == [108, 97, 98, 101, 108]) = true := by rw [str_tl, el]; rfl
            have HV := Lib.hid (show valM m al a = getM al y by rw [HA.out, el]; simp [valM, show ¬ wLabel = wGroup by decide])
            have HGet := Lib.hid (get_any (w := W1.drew) ⟨Aa, ca, rfl, hca, Kd.C_below hCa (HR1.out.bel.trans ((below_drew (Below.refl _ _)).mono HR1.out.bel.size))⟩ y)
            clear el eg hv
            go_upto_region 15 with (fail)
            refine wp_region_held_drew (S := fun wv : World => wv.cell? ⟨b, 7, none⟩ = some (.slice Aa al.length ca) ∧ wv.cell? ⟨ad.block, ad.off + 1, none⟩ = some (.string (str y))) (by kernel_rfl) ⟨d7, hx1⟩ (fun hHeld => ?_)
            refine wpAnyH_take (i := 0) (oi := _) (v := ?_) rfl (by kernel_rfl) (by kernel_rfl) (by kernel_rfl) (fun _ _ _ h => h) (Or.inl ⟨by rfl, ?_⟩) (by assumption) ?_
            rotate_left 1
            · intro w hSw; (try dsimp only at hSw); go_simp; (try with_reducible rfl)
            try simp only [Act.put, List.setIfInBounds_toArray, List.set_cons_zero, List.set_cons_succ, List.getElem_toArray, List.getElem_cons_zero, List.getElem_cons_succ]
            refine wpAnyH_take (i := 1) (oi := _) (v := ?_) rfl (by kernel_rfl) (by kernel_rfl) (by kernel_rfl) (fun _ _ _ h => h) (Or.inl ⟨by rfl, ?_⟩) (by assumption) ?_
            rotate_left 1
            · intro w hSw; (try dsimp only at hSw); go_simp; (try with_reducible rfl)
            try simp only [Act.put, List.setIfInBounds_toArray, List.set_cons_zero, List.set_cons_succ, List.getElem_toArray, List.getElem_cons_zero, List.getElem_cons_succ]
            refine wpAnyH_take (i := 2) (oi := _) (v := ?_) rfl (by kernel_rfl) (by kernel_rfl) (by kernel_rfl) (fun _ _ _ h => h) (Or.inl ⟨by rfl, ?_⟩) (by assumption) ?_
            rotate_left 1
            · intro w hSw; (try dsimp only at hSw); go_simp; (try with_reducible rfl)
            try simp only [Act.put, List.setIfInBounds_toArray, List.set_cons_zero, List.set_cons_succ, List.getElem_toArray, List.getElem_cons_zero, List.getElem_cons_succ]
            refine wpAnyH_take (i := 3) (oi := _) (v := ?_) rfl (by kernel_rfl) (by kernel_rfl) (by kernel_rfl) (fun _ _ _ h => h) (Or.inl ⟨by rfl, ?_⟩) (by assumption) ?_
            rotate_left 1
            · intro w hSw; (try dsimp only at hSw); go_simp; (try with_reducible rfl)
            try simp only [Act.put, List.setIfInBounds_toArray, List.set_cons_zero, List.set_cons_succ, List.getElem_toArray, List.getElem_cons_zero, List.getElem_cons_succ]
            refine wpAnyH_take (i := 4) (oi := _) (v := ?_) rfl (by kernel_rfl) (by kernel_rfl) (by kernel_rfl) (fun _ _ _ h => h) (Or.inl ⟨by rfl, ?_⟩) (by assumption) ?_
            rotate_left 1
            · intro w hSw; (try dsimp only at hSw); go_simp; (try with_reducible rfl)
            try simp only [Act.put, List.setIfInBounds_toArray, List.set_cons_zero, List.set_cons_succ, List.getElem_toArray, List.getElem_cons_zero, List.getElem_cons_succ]
            refine wpAnyH_take (i := 5) (oi := _) (v := ?_) rfl (by kernel_rfl) (by kernel_rfl) (by kernel_rfl) (fun _ _ _ h => h) (Or.inl ⟨by rfl, ?_⟩) (by assumption) ?_
            rotate_left 1
            · intro w hSw; (try dsimp only at hSw); go_simp; (try with_reducible rfl)
            try simp only [Act.put, List.setIfInBounds_toArray, List.set_cons_zero, List.set_cons_succ, List.getElem_toArray, List.getElem_cons_zero, List.getElem_cons_succ]
            refine wpAnyH_take (i := 6) (oi := _) (v := ?_) rfl (by kernel_rfl) (by kernel_rfl) (by kernel_rfl) (fun _ _ _ h => h) (Or.inl ⟨by rfl, ?_⟩) (by assumption) ?_
            rotate_left 1
            · intro w hSw; (try dsimp only at hSw); go_simp; (try with_reducible rfl)
            try simp only [Act.put, List.setIfInBounds_toArray, List.set_cons_zero, List.set_cons_succ, List.getElem_toArray, List.getElem_cons_zero, List.getElem_cons_succ]
            refine wpAnyH_ready (rs := [7]) (by kernel_rfl) (by simp) ?_
            refine AllReadyH.cons (o := _) rfl (fun K hK => ?_) AllReadyH.nil
            go_simp
            refine HGet.out.mono ?_
            rintro e w3 ⟨rfl, hb3⟩
            refine hK.out _ _ ⟨pw_cell_below hb3 d7, pw_cell_below hb3 hx1⟩ (fun hHeld => ?_)
            clear hK K
            refine wpAnyH_take (i := 8) (oi := _) (v := ?_) rfl (by kernel_rfl) (by kernel_rfl) (by kernel_rfl) (fun _ _ _ h => h) (Or.inl ⟨by rfl, ?_⟩) (by assumption) ?_
            rotate_left 1
            · intro w hSw; (try dsimp only at hSw); go_simp; (try with_reducible rfl)
            try simp only [Act.put, List.setIfInBounds_toArray, List.set_cons_zero, List.set_cons_succ, List.getElem_toArray, List.getElem_cons_zero, List.getElem_cons_succ]
            refine wpAnyH_done (by kernel_rfl) ?_ _
            go_wp2
            go_meet
            case rel => exact ⟨by rw [HV.out], (below_drew (Below.refl _ _)).trans hb3⟩
    case rest =>
      obtain ⟨rfl, hbc⟩ := hcut
      have hbq := blk_below HBx.out hbc
      have q1 : wc.cell? ⟨w.heap.size, 1, none⟩ = some (.slice A1 fl.length c1) := (blk_cell hbq 1).trans rfl
      have HBc := Lib.hid hbc
      have hpl : filtM (valM m al a) fl = (plM m al a fl, 0) := by
        have h2 := HG.out.2.1
        unfold plM
        rw [← h2]
      have HPl := Lib.hid hpl
      obtain ⟨out, hout⟩ : ∃ o, plM m al a fl = o := ⟨_, rfl⟩
      rw [hout] at hpl
      have HOut := Lib.hid hout
      have HFi := Lib.hid hpl
      obtain ⟨vm, hvm⟩ : ∃ o, valM m al a = o := ⟨_, rfl⟩
      have HVm := Lib.hid hvm
      rw [hvm] at HFi ⊢
      clear hbq hbc hpl hout hvm HPl
      go_step
      go_wp2_with fail
      go_loopw [6, 72] (fun v6 v72 wr => VaRel W1 fl out v6 v72 wr) (fun _ v _ => match v with | .int _ k => fl.length - k.toNat | _ => 0)
      case atStart => exact ⟨vm, 0, rfl, rfl, Nat.zero_le _, by rw [← HVm.out]; exact HG.out.2.2.1, HFi.out, HBc.out⟩
      case round =>
        obtain ⟨s, j, rfl, rfl, hj, hs, hfi, hbr⟩ := hrel
        have hbw0 : Below w0.heap.size w0 wr := HR1.out.bel.trans (hbr.mono HR1.out.bel.size)
        by_cases hjl : j < fl.length
        · have hji : (j : Int) < (fl.length : Int) := by omega
          have hj0 : (0 : Int) ≤ (j : Int) := by omega
          have h1r : RowK (fun _ => True) wr (fun v x => SsK (fun _ => True) wr v x) (.slice A1 fl.length c1) fl := RowK.turn H0.out.2 (same_below hbw0 (Nat.le_refl _))
          obtain ⟨ad1, c9, V9, hA9, _, hc9, hV9⟩ := h1r.at hjl
          injection hA9 with hA9 _ hcc
          subst hA9
          subst hcc
          have hflt := Filter_any (hT.below hbw0) hV9.ss (fun x hx => by have := HG.out.2.2.2.2.1 _ (List.getElem_mem hjl) x hx; unfold maxLen; omega) s (by omega)
          have hdr : fl.drop j = fl[j] :: fl.drop (j + 1) := List.drop_eq_getElem_cons hjl
          rw [hdr, filtM] at hfi
          obtain ⟨z, hz⟩ : ∃ z, filterM s fl[j] = z := ⟨_, rfl⟩
          rw [hz] at hfi hflt
          obtain ⟨z1, z2⟩ := z
          simp only at hfi hflt
          have hz2 : z2 = 0 := by
            by_cases h0 : z2 = 0
            · exact h0
            · rw [if_pos h0] at hfi; exact absurd (Prod.mk.inj hfi).2 h0
          subst hz2
          rw [if_neg (by simp)] at hfi
          have hz1 : ¬ 65536 < z1.length := by
            intro h
            rw [if_pos h] at hfi
            exact absurd (Prod.mk.inj hfi).2 (by decide)
          rw [if_neg hz1] at hfi
          have hzi : ¬ (65536 : Int) < ((str z1).size : Int) := by rw [str_size]; omega
          have hzi2 : ¬ (65536 : Int) < (z1.length : Int) := by omega
          have hzs := str_size z1
          have hw1 : IntKind.i64.wrap ((j : Int) + 1) = ((j + 1 : Nat) : Int) := by
            have := HG.out.2.2.2.2.2
            rw [IntKind.wrap_i64]; omega
          obtain ⟨B9, d9, hV9e, hd9⟩ := hV9.form
          obtain ⟨f9, hf9⟩ : ∃ f, fl[j] = f := ⟨_, rfl⟩
          rw [hf9] at hV9e
          subst hV9e
          have HFl := Lib.hid hflt
          have HFi2 := Lib.hid hfi
          have HBr := Lib.hid hbr
          have HNum := Lib.hid (And.intro hz1 hjl)
          clear hflt hfi hbr hbw0 h1r hV9 hdr hz hf9
          go_wp2_with (first | (go_at_call 14; (refine HFl.out.mono ?_); rintro e w5 ⟨rfl, hb5⟩))
          go_roundw
          case rel => exact ⟨z1, j + 1, rfl, rfl, by omega, by have := HNum.out.1; omega, HFi2.out, HBr.out.trans (hb5.mono HBr.out.size)⟩
          case measure => simp; omega
        · have hji : ¬ (j : Int) < (fl.length : Int) := by omega
          have hd : fl.drop j = [] := List.drop_eq_nil_of_le (by omega)
          rw [hd, filtM] at hfi
          injection hfi with hfi _
          have HE := Lib.hid hfi
          have HBr := Lib.hid hbr
          clear hfi hd hbr hbw0
          go_wp2
          refine bodyPost_ret (results_tmp2 rfl _ _ _) rfl ⟨?_, HB1.out.trans (HBr.out.mono HB1.out.size)⟩
          rw [HOut.out, ← HE.out]
          rfl
end Go.Proofs.YtllhpkpckjacfaaGreatDoor
