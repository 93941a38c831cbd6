/- template.Check; Render. -/
import Derived.Test.YtllhpkpckjacfaaGreatDoorTrD
namespace Go.Proofs.YtllhpkpckjacfaaGreatDoor
open Go.RowKit Go.Proofs.YtllhpkpckjacfaaGreatDoorW.PrintWords PTemplateFilters
set_option linter.unusedVariables false
set_option linter.unusedSimpArgs false

/-- The first error of lists of pairs. -/
noncomputable def chkAll : List (List S40) → Int
  | [] => 0
  | l :: L => if checkM l ≠ 0 then checkM l else chkAll L
theorem chkAll_zero {L : List (List S40)} (h : ∀ i (hi : i < L.length), checkM L[i] = 0) : chkAll L = 0 := by
  induction L with
  | nil => rfl
  | cons a L ih =>
    have h0 := h 0 (by simp)
    simp only [List.getElem_cons_zero] at h0
    rw [chkAll, if_neg (by rw [h0]; simp)]
    exact ih (fun i hi => h (i + 1) (by simpa using hi))
theorem chkAll_at {L : List (List S40)} {j : Nat} (hj : j < L.length) (h : ∀ i (hi : i < j), checkM (L[i]'(by omega)) = 0) (hne : checkM L[j] ≠ 0) : chkAll L = checkM L[j] := by
  induction L generalizing j with
  | nil => simp at hj
  | cons a L ih =>
    cases j with
    | zero => rw [chkAll]; simp only [List.getElem_cons_zero] at hne ⊢; rw [if_pos hne]
    | succ j =>
      have h0 := h 0 (by omega)
      simp only [List.getElem_cons_zero] at h0
      rw [chkAll, if_neg (by rw [h0]; simp)]
      exact ih (by simpa using hj) (fun i hi => h (i + 1) (by omega)) hne
/-- template.Check's answer. -/
noncomputable def chkM (m : MsgM) : Int :=
  if nameM m.recv = false then 6
  else if 1024 < m.key.length ∨ 64 < m.firing.length ∨ 64 < m.resolved.length then 5
  else if checkM m.group ≠ 0 then checkM m.group
  else if chkAll m.firing ≠ 0 then chkAll m.firing
  else chkAll m.resolved
/-- What the loops keep. -/
def CkOut (w : World) (m : MsgM) (v : Value) (wr : World) : Prop := ∃ k : Nat, v = .int .i64 k ∧ k ≤ 2 ∧ Below w.heap.size w wr ∧ (1 ≤ k → chkAll m.firing = 0) ∧ (2 ≤ k → chkAll m.resolved = 0)
def CkIn (w : World) (L : List (List S40)) (v : Value) (wr : World) : Prop := ∃ j : Nat, v = .int .i64 j ∧ j ≤ L.length ∧ Below w.heap.size w wr ∧ ∀ i (hi : i < L.length), i < j → checkM L[i] = 0
theorem ix66_0 (A B : Option Addr) (n c k d : Nat) (w : World) : Sem.run Tryz.prog (Instr.index 66 (.agg #[.slice A n c, .slice B k d]) (.int .i64 0)) w = .ok (.slice A n c) w := by
  kernel_rfl
theorem ix66_1 (A B : Option Addr) (n c k d : Nat) (w : World) : Sem.run Tryz.prog (Instr.index 66 (.agg #[.slice A n c, .slice B k d]) (.int .i64 1)) w = .ok (.slice B k d) w := by
  kernel_rfl
set_option maxRecDepth 100000 in
set_option maxHeartbeats 1600000 in
theorem tcheck_any {w : World} {m : MsgM} {pre : List Value} (hM : MsgC w m pre) : Calls Tryz.prog 17 #[.agg pre.toArray] w fun e w' => e = .returned (.int .i64 (chkM m)) ∧ Below w.heap.size w w' := by
  obtain ⟨Vg, Vf, Vr, rfl, hg, hf, hr⟩ := hM
  have HNm := Lib.hid (name_call (str m.recv))
  have hrb : bts (str m.recv) = m.recv := str_toList _
  rw [hrb] at HNm
  have HG := Lib.hid (fun w' (hb : Below w.heap.size w w') => check_any (hg.below hb))
  obtain ⟨Af, cf, rfl, hcf⟩ := hf.form
  obtain ⟨Ar, cr, rfl, hcr⟩ := hr.form
  obtain ⟨Ag, cg, rfl, hcg, hCg⟩ := hg
  have HF := Lib.hid hf
  have HRr := Lib.hid hr
  have hks := str_size m.key
  obtain ⟨res, hres⟩ : ∃ r, chkM m = r := ⟨_, rfl⟩
  rw [hres]
  have HRes := Lib.hid hres
  clear hres hf hr hCg hrb
  cases hnm : nameM m.recv
  · have hr6 : res = 6 := by rw [← HRes.out, chkM, if_pos hnm]
    subst hr6
    rw [hnm] at HNm
    clear hnm
    go_enter Tryz.func17, Tryz.ntmps17
    go_wp2_with (first | (go_at_call 44; (refine (HNm.out _).mono ?_); rintro e w3 ⟨rfl, nd, rfl⟩))
    go_ret
    exact ⟨rfl, below_drewN (below_alloc (Below.refl _ _) _) _⟩
  · have HNm2 := Lib.hid hnm
    rw [hnm] at HNm
    clear hnm
    go_enter Tryz.func17, Tryz.ntmps17
    go_upto_region 3 with (first | (go_at_call 44; (refine (HNm.out _).mono ?_); rintro e w3 ⟨rfl, nd, rfl⟩))
    have hbx : (World.drewN (w.alloc (.cells #[.string (str m.recv), .string (str m.key), .slice Ag m.group.length cg, .slice Af m.firing.length cf, .slice Ar m.resolved.length cr] 33)) nd).heap[w.heap.size]? = some (.cells #[.string (str m.recv), .string (str m.key), .slice Ag m.group.length cg, .slice Af m.firing.length cf, .slice Ar m.resolved.length cr] 33 (0, 0)) := heap_alloc_new w _
    have hb1 : Below w.heap.size w (World.drewN (w.alloc (.cells #[.string (str m.recv), .string (str m.key), .slice Ag m.group.length cg, .slice Af m.firing.length cf, .slice Ar m.resolved.length cr] 33)) nd) := below_drewN (below_alloc (Below.refl _ _) _) _
    generalize hW1 : World.drewN (w.alloc _) nd = W1 at hbx hb1 ⊢
    have d1 : W1.cell? ⟨w.heap.size, 1, none⟩ = some (.string (str m.key)) := (blk_cell hbx 1).trans rfl
    have d2 : W1.cell? ⟨w.heap.size, 2, none⟩ = some (.slice Ag m.group.length cg) := (blk_cell hbx 2).trans rfl
    have d3 : W1.cell? ⟨w.heap.size, 3, none⟩ = some (.slice Af m.firing.length cf) := (blk_cell hbx 3).trans rfl
    have d4 : W1.cell? ⟨w.heap.size, 4, none⟩ = some (.slice Ar m.resolved.length cr) := (blk_cell hbx 4).trans rfl
    have HBx := Lib.hid hbx
    have HB1 := Lib.hid hb1
    clear hW1 hbx hb1
    go_cut [14] (fun v14 wx => v14 = .bool (decide (1024 < m.key.length ∨ 64 < m.firing.length ∨ 64 < m.resolved.length)) ∧ wx = W1)
    case first =>
      by_cases hk : 1024 < m.key.length
      · have hki : (1024 : Int) < (m.key.length : Int) := by omega
        have hki2 : decide ((1024 : Int) < (m.key.length : Int)) = true := decide_eq_true hki
        have HD := Lib.hid (show decide (1024 < m.key.length ∨ 64 < m.firing.length ∨ 64 < m.resolved.length) = true from decide_eq_true (Or.inl hk))
        clear hk
        go_wp2
        go_meet
        case rel => exact ⟨by rw [HD.out], rfl⟩
      · have hki : ¬ (1024 : Int) < (m.key.length : Int) := by omega
        by_cases hmx : m.firing.length ≤ m.resolved.length
        · have hmi : (m.firing.length : Int) ≤ (m.resolved.length : Int) := by omega
          have hmi2 : max (m.firing.length : Int) (m.resolved.length : Int) = (m.resolved.length : Int) := by omega
          by_cases h6 : 64 < m.resolved.length
          · have h6i : (64 : Int) < (m.resolved.length : Int) := by omega
            have HD := Lib.hid (show decide (1024 < m.key.length ∨ 64 < m.firing.length ∨ 64 < m.resolved.length) = true from decide_eq_true (by omega))
            clear hk h6
            go_wp2
            go_meet
            case rel => exact ⟨by rw [HD.out], rfl⟩
          · have h6i : ¬ (64 : Int) < (m.resolved.length : Int) := by omega
            have HD := Lib.hid (show decide (1024 < m.key.length ∨ 64 < m.firing.length ∨ 64 < m.resolved.length) = false from decide_eq_false (by omega))
            clear hk h6
            go_wp2
            go_meet
            case rel => exact ⟨by rw [HD.out], rfl⟩
        · have hmi : ¬ (m.firing.length : Int) ≤ (m.resolved.length : Int) := by omega
          have hmi2 : max (m.firing.length : Int) (m.resolved.length : Int) = (m.firing.length : Int) := by omega
          by_cases h6 : 64 < m.firing.length
          · have h6i : (64 : Int) < (m.firing.length : Int) := by omega
            have HD := Lib.hid (show decide (1024 < m.key.length ∨ 64 < m.firing.length ∨ 64 < m.resolved.length) = true from decide_eq_true (by omega))
            clear hk h6
            go_wp2
            go_meet
            case rel => exact ⟨by rw [HD.out], rfl⟩
          · have h6i : ¬ (64 : Int) < (m.firing.length : Int) := by omega
            have HD := Lib.hid (show decide (1024 < m.key.length ∨ 64 < m.firing.length ∨ 64 < m.resolved.length) = false from decide_eq_false (by omega))
            clear hk h6
            go_wp2
            go_meet
            case rel => exact ⟨by rw [HD.out], rfl⟩
    case rest =>
      obtain ⟨rfl, hwx⟩ := hcut
      rw [hwx]
      clear hwx
      by_cases hlong : 1024 < m.key.length ∨ 64 < m.firing.length ∨ 64 < m.resolved.length
      · have hr5 : res = 5 := by rw [← HRes.out, chkM, if_neg (by rw [HNm2.out]; simp), if_pos hlong]
        subst hr5
        rw [decide_eq_true hlong]
        go_wp2
        go_ret
        exact ⟨rfl, HB1.out⟩
      · rw [decide_eq_false hlong]
        have hck := HG.out _ HB1.out
        obtain ⟨r, hr9⟩ : ∃ r, checkM m.group = r := ⟨_, rfl⟩
        rw [hr9] at hck
        have HCk := Lib.hid hck
        have HR9 := Lib.hid hr9
        have H64 := Lib.hid (show m.firing.length ≤ 64 ∧ m.resolved.length ≤ 64 by omega)
        have HLg := Lib.hid hlong
        clear hck hr9 hlong
        by_cases hr0 : r = 0
        · subst hr0
          have HBase : Hid (chkM m = if chkAll m.firing ≠ 0 then chkAll m.firing else chkAll m.resolved) := Lib.hid (by rw [chkM, if_neg (by rw [HNm2.out]; simp), if_neg HLg.out, if_neg (by rw [HR9.out]; simp)])
          go_upto_region 8 with (first | (go_at_call 45; (refine HCk.out.mono ?_); rintro e w2 ⟨rfl, hb2⟩; have e3 := pw_cell_below hb2 d3; have e4 := pw_cell_below hb2 d4))
          have HB2 := Lib.hid (HB1.out.trans (hb2.mono HB1.out.size))
          clear hb2
          go_wp2_with fail
          go_loopw [40] (fun v wr => CkOut w m v wr) (fun v _ => 2 - (intOf v).toNat)
          case atStart => exact ⟨0, rfl, by omega, HB2.out, fun h => by omega, fun h => by omega⟩
          case round =>
            obtain ⟨k, rfl, hk, hbo, hk1, hk2⟩ := hrel
            have HBo := Lib.hid hbo
            have HK := Lib.hid hk1
            have HK2 := Lib.hid hk2
            clear hbo hk1 hk2
            rcases (by omega : k = 0 ∨ k = 1 ∨ k = 2) with rfl | rfl | rfl
            · rw [show ((0 : Nat) : Int) = 0 from rfl]
              have hix := ix66_0 Af Ar m.firing.length cf m.resolved.length cr
              go_wp2_with fail
              go_loopw [45] (fun v wr => CkIn w m.firing v wr) (fun v _ => m.firing.length - (intOf v).toNat)
              case atStart => exact ⟨0, rfl, Nat.zero_le _, HBo.out, fun i hi h => absurd h (Nat.not_lt_zero _)⟩
              case round =>
                obtain ⟨j, rfl, hj, hbi, hall⟩ := hrel
                have HBi := Lib.hid hbi
                have HAll := Lib.hid hall
                clear hall
                by_cases hjl : j < m.firing.length
                · have hji : (j : Int) < (m.firing.length : Int) := by omega
                  have hj0 : (0 : Int) ≤ (j : Int) := by omega
                  obtain ⟨ad1, c9, V9, hA9, _, hc9, hV9⟩ := (HF.out.below hbi).at hjl
                  injection hA9 with hA9 _ hcc
                  subst hA9
                  subst hcc
                  have hck := check_any hV9
                  obtain ⟨Aj, cj, rfl, _, _⟩ := hV9
                  obtain ⟨r, hr9⟩ : ∃ r, checkM m.firing[j] = r := ⟨_, rfl⟩
                  rw [hr9] at hck
                  have HCk := Lib.hid hck
                  have HR9 := Lib.hid hr9
                  have hw1 : IntKind.i64.wrap ((j : Int) + 1) = ((j + 1 : Nat) : Int) := by have := H64.out; rw [IntKind.wrap_i64]; omega
                  clear hck hr9 hbi
                  by_cases hr0 : r = 0
                  · subst hr0
                    go_wp2_with (first | (go_at_call 45; (refine HCk.out.mono ?_); rintro e w5 ⟨rfl, hb5⟩))
                    go_roundw
                    case rel =>
                      refine ⟨j + 1, rfl, by omega, HBi.out.trans (hb5.mono HBi.out.size), fun i hi hij => ?_⟩
                      by_cases hx : i = j
                      · subst hx; exact HR9.out
                      · exact HAll.out i hi (by omega)
                    case measure => simp [intOf]; omega
                  · have hr1 : (r != 0) = true := by rw [bne_iff_ne]; exact hr0
                    have HNe := Lib.hid hr0
                    have hr9 : chkAll m.firing = r := (chkAll_at hjl (fun i hi => HAll.out i (by omega) hi) (by rw [HR9.out]; exact hr0)).trans HR9.out
                    have hres : res = r := by rw [← HRes.out, HBase.out, if_pos (by rw [hr9]; exact HNe.out), hr9]
                    clear hr9
                    have HRs := Lib.hid hres
                    clear hres
                    go_wp2_with (first | (go_at_call 45; (refine HCk.out.mono ?_); rintro e w5 ⟨rfl, hb5⟩))
                    go_ret
                    exact ⟨by rw [HRs.out]; rfl, HBi.out.trans (hb5.mono HBi.out.size)⟩
                · have hji : ¬ (j : Int) < (m.firing.length : Int) := by omega
                  go_wp2
                  go_roundw
                  case rel => exact ⟨1, rfl, by omega, HBi.out, fun _ => chkAll_zero (fun i hi => HAll.out i hi (by omega)), fun h => by omega⟩
                  case measure => simp [intOf]
            · rw [show ((1 : Nat) : Int) = 1 from rfl]
              have hix := ix66_1 Af Ar m.firing.length cf m.resolved.length cr
              go_wp2_with fail
              go_loopw [45] (fun v wr => CkIn w m.resolved v wr) (fun v _ => m.resolved.length - (intOf v).toNat)
              case atStart => exact ⟨0, rfl, Nat.zero_le _, HBo.out, fun i hi h => absurd h (Nat.not_lt_zero _)⟩
              case round =>
                obtain ⟨j, rfl, hj, hbi, hall⟩ := hrel
                have HBi := Lib.hid hbi
                have HAll := Lib.hid hall
                clear hall
                by_cases hjl : j < m.resolved.length
                · have hji : (j : Int) < (m.resolved.length : Int) := by omega
                  have hj0 : (0 : Int) ≤ (j : Int) := by omega
                  obtain ⟨ad1, c9, V9, hA9, _, hc9, hV9⟩ := (HRr.out.below hbi).at hjl
                  injection hA9 with hA9 _ hcc
                  subst hA9
                  subst hcc
                  have hck := check_any hV9
                  obtain ⟨Aj, cj, rfl, _, _⟩ := hV9
                  obtain ⟨r, hr9⟩ : ∃ r, checkM m.resolved[j] = r := ⟨_, rfl⟩
                  rw [hr9] at hck
                  have HCk := Lib.hid hck
                  have HR9 := Lib.hid hr9
                  have hw1 : IntKind.i64.wrap ((j : Int) + 1) = ((j + 1 : Nat) : Int) := by have := H64.out; rw [IntKind.wrap_i64]; omega
                  clear hck hr9 hbi
                  by_cases hr0 : r = 0
                  · subst hr0
                    go_wp2_with (first | (go_at_call 45; (refine HCk.out.mono ?_); rintro e w5 ⟨rfl, hb5⟩))
                    go_roundw
                    case rel =>
                      refine ⟨j + 1, rfl, by omega, HBi.out.trans (hb5.mono HBi.out.size), fun i hi hij => ?_⟩
                      by_cases hx : i = j
                      · subst hx; exact HR9.out
                      · exact HAll.out i hi (by omega)
                    case measure => simp [intOf]; omega
                  · have hr1 : (r != 0) = true := by rw [bne_iff_ne]; exact hr0
                    have HNe := Lib.hid hr0
                    have hr9 : chkAll m.resolved = r := (chkAll_at hjl (fun i hi => HAll.out i (by omega) hi) (by rw [HR9.out]; exact hr0)).trans HR9.out
                    have hres : res = r := by rw [← HRes.out, HBase.out, if_neg (by rw [HK.out (by omega)]; simp), hr9]
                    clear hr9
                    have HRs := Lib.hid hres
                    clear hres
                    go_wp2_with (first | (go_at_call 45; (refine HCk.out.mono ?_); rintro e w5 ⟨rfl, hb5⟩))
                    go_ret
                    exact ⟨by rw [HRs.out]; rfl, HBi.out.trans (hb5.mono HBi.out.size)⟩
                · have hji : ¬ (j : Int) < (m.resolved.length : Int) := by omega
                  go_wp2
                  go_roundw
                  case rel => exact ⟨2, rfl, by omega, HBi.out, fun _ => HK.out (by omega), fun _ => chkAll_zero (fun i hi => HAll.out i hi (by omega))⟩
                  case measure => simp [intOf]
            · have hr0 : res = 0 := by rw [← HRes.out, HBase.out, if_neg (by rw [HK.out (by omega)]; simp), HK2.out (by omega)]
              have HRs := Lib.hid hr0
              clear hr0
              go_wp2
              go_ret
              exact ⟨by rw [HRs.out]; rfl, HBo.out⟩
        · have hr1 : (r != 0) = true := by rw [bne_iff_ne]; exact hr0
          have hres : res = r := by rw [← HRes.out, chkM, if_neg (by rw [HNm2.out]; simp), if_neg HLg.out, HR9.out, if_pos hr0]
          have HRs := Lib.hid hres
          clear hres
          go_wp2_with (first | (go_at_call 45; (refine HCk.out.mono ?_); rintro e w2 ⟨rfl, hb2⟩))
          go_ret
          exact ⟨by rw [HRs.out]; rfl, HB1.out.trans (hb2.mono HB1.out.size)⟩
end Go.Proofs.YtllhpkpckjacfaaGreatDoor
