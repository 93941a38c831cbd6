/- The reference's Light: it answers. -/
import Derived.Test.YtllhpkpckjacfaaGreatDoorTrG
namespace Go.Proofs.YtllhpkpckjacfaaGreatDoor
open Go.RowKit Go.Proofs.YtllhpkpckjacfaaGreatDoorW.PrintWords PTemplateFilters
set_option linter.unusedVariables false
set_option linter.unusedSimpArgs false

/-- It answers. -/
def LiPost (w : World) (e : Ending) (w' : World) : Prop := ∃ b, e = .returned (.bool b) ∧ Below w.heap.size w w'
def LiOut (w : World) (F R : Nat) (v5 v6 : Value) (wr : World) : Prop := ∃ n i : Nat, v5 = .int .i64 n ∧ v6 = .int .i64 i ∧ n ≤ 2000 ∧ i ≤ F + R ∧ Below w.heap.size w wr
def LiIn (w : World) (l : List S40) (v5 v9 : Value) (wr : World) : Prop := ∃ n j : Nat, v5 = .int .i64 n ∧ v9 = .int .i64 j ∧ n ≤ 2000 ∧ j ≤ l.length ∧ Below w.heap.size w wr
set_option maxRecDepth 100000 in
set_option maxHeartbeats 1600000 in
theorem light_any {w : World} {m : MsgM} {pre : List Value} (hM : MsgC w m pre) : Calls Tryz.prog 16 #[.agg pre.toArray, .int .i64 2000] w (LiPost w) := by
  obtain ⟨Vg, Vf, Vr, rfl, hg, hf, hr⟩ := hM
  obtain ⟨Af, cf, rfl, hcf⟩ := hf.form
  obtain ⟨Ar, cr, rfl, hcr⟩ := hr.form
  obtain ⟨Ag, cg, rfl, hcg, hCg⟩ := hg
  have hks := str_size m.key
  have hrs := str_size m.recv
  have hb1 : Below w.heap.size w (w.alloc (.cells #[.string (str m.recv), .string (str m.key), .slice Ag m.group.length cg, .slice Af m.firing.length cf, .slice Ar m.resolved.length cr] 33)) := below_alloc (Below.refl _ _) _
  have hbx : (w.alloc (.cells #[.string (str m.recv), .string (str m.key), .slice Ag m.group.length cg, .slice Af m.firing.length cf, .slice Ar m.resolved.length cr] 33)).heap[w.heap.size]? = some (.cells #[.string (str m.recv), .string (str m.key), .slice Ag m.group.length cg, .slice Af m.firing.length cf, .slice Ar m.resolved.length cr] 33 (0, 0)) := heap_alloc_new w _
  have HF := Lib.hid hf
  have HR := Lib.hid hr
  have HB1 := Lib.hid hb1
  have HBx := Lib.hid hbx
  clear hf hr hCg hb1 hbx
  go_enter Tryz.func16, Tryz.ntmps16
  go_upto_region 1 with (fail)
  generalize hW1 : w.alloc _ = W1 at HB1 HBx ⊢
  have d0 : W1.cell? ⟨w.heap.size, 0, none⟩ = some (.string (str m.recv)) := (blk_cell HBx.out 0).trans rfl
  have d1 : W1.cell? ⟨w.heap.size, 1, none⟩ = some (.string (str m.key)) := (blk_cell HBx.out 1).trans rfl
  have d2 : W1.cell? ⟨w.heap.size, 2, none⟩ = some (.slice Ag m.group.length cg) := (blk_cell HBx.out 2).trans rfl
  have d3 : W1.cell? ⟨w.heap.size, 3, none⟩ = some (.slice Af m.firing.length cf) := (blk_cell HBx.out 3).trans rfl
  have d4 : W1.cell? ⟨w.heap.size, 4, none⟩ = some (.slice Ar m.resolved.length cr) := (blk_cell HBx.out 4).trans rfl
  clear hW1
  go_cut [37] (fun v37 wx => v37 = .bool (decide (80 < m.firing.length ∨ 80 < m.resolved.length ∨ 12 < m.group.length ∨ 2000 < m.key.length ∨ 100 < m.recv.length)) ∧ wx = W1)
  case first =>
    obtain ⟨B, hB⟩ : ∃ B, decide (80 < m.firing.length ∨ 80 < m.resolved.length ∨ 12 < m.group.length ∨ 2000 < m.key.length ∨ 100 < m.recv.length) = B := ⟨_, rfl⟩
    have HBo := Lib.hid hB
    clear hB
    by_cases h0 : 80 < m.firing.length
    · have h0i : (80 : Int) < (m.firing.length : Int) := by omega
      have hD : B = true := by rw [← HBo.out]; exact decide_eq_true (by omega)
      subst hD
      clear h0
      go_wp2
      go_meet
      case rel => exact ⟨by rw [HBo.out], rfl⟩
    · have h0i : ¬ (80 : Int) < (m.firing.length : Int) := by omega
      by_cases h1 : 80 < m.resolved.length
      · have h1i : (80 : Int) < (m.resolved.length : Int) := by omega
        have hD : B = true := by rw [← HBo.out]; exact decide_eq_true (by omega)
        subst hD
        clear h0 h1
        go_wp2
        go_meet
        case rel => exact ⟨by rw [HBo.out], rfl⟩
      · have h1i : ¬ (80 : Int) < (m.resolved.length : Int) := by omega
        by_cases h2 : 12 < m.group.length
        · have h2i : (12 : Int) < (m.group.length : Int) := by omega
          have hD : B = true := by rw [← HBo.out]; exact decide_eq_true (by omega)
          subst hD
          clear h0 h1 h2
          go_wp2
          go_meet
          case rel => exact ⟨by rw [HBo.out], rfl⟩
        · have h2i : ¬ (12 : Int) < (m.group.length : Int) := by omega
          by_cases h3 : 2000 < m.key.length
          · have h3i : (2000 : Int) < (m.key.length : Int) := by omega
            have hD : B = true := by rw [← HBo.out]; exact decide_eq_true (by omega)
            subst hD
            clear h0 h1 h2 h3
            go_wp2
            go_meet
            case rel => exact ⟨by rw [HBo.out], rfl⟩
          · have h3i : ¬ (2000 : Int) < (m.key.length : Int) := by omega
            by_cases h4 : 100 < m.recv.length
            · have h4i : (100 : Int) < (m.recv.length : Int) := by omega
              have hD : B = true := by rw [← HBo.out]; exact decide_eq_true (by omega)
              subst hD
              clear h0 h1 h2 h3 h4
              go_wp2
              go_meet
              case rel => exact ⟨by rw [HBo.out], rfl⟩
            · have h4i : ¬ (100 : Int) < (m.recv.length : Int) := by omega
              have hD : B = false := by rw [← HBo.out]; exact decide_eq_false (by omega)
              subst hD
              clear h0 h1 h2 h3 h4
              go_wp2
              go_meet
              case rel => exact ⟨by rw [HBo.out], rfl⟩
  case rest =>
    obtain ⟨rfl, hwx⟩ := hcut
    rw [hwx]
    clear hwx
    by_cases hlong : 80 < m.firing.length ∨ 80 < m.resolved.length ∨ 12 < m.group.length ∨ 2000 < m.key.length ∨ 100 < m.recv.length
    · rw [decide_eq_true hlong]
      go_wp2
      go_ret
      first | exact ⟨_, rfl, HB1.out⟩ | exact HB1.out
    · rw [decide_eq_false hlong]
      have hF80 : m.firing.length ≤ 80 := by omega
      have hR80 : m.resolved.length ≤ 80 := by omega
      clear hlong
      have hws : IntKind.i64.wrap ((m.firing.length : Int) + (m.resolved.length : Int)) = (m.firing.length : Int) + (m.resolved.length : Int) := by rw [IntKind.wrap_i64]; omega
      go_wp2_with fail
      go_loopw [5, 6] (fun v5 v6 wr => LiOut W1 m.firing.length m.resolved.length v5 v6 wr) (fun _ v _ => m.firing.length + m.resolved.length - (intOf v).toNat)
      case atStart => exact ⟨0, 0, rfl, rfl, by omega, by omega, Below.refl _ _⟩
      case round =>
        obtain ⟨n, i, rfl, rfl, hn, hi, hbo⟩ := hrel
        have HBo := Lib.hid hbo
        have e3 := pw_cell_below hbo d3
        have e4 := pw_cell_below hbo d4
        clear hbo
        have hwi : IntKind.i64.wrap ((i : Int) + 1) = ((i + 1 : Nat) : Int) := by rw [IntKind.wrap_i64]; omega
        by_cases hif : i < m.firing.length + m.resolved.length
        · have hifi : (i : Int) < (m.firing.length : Int) + (m.resolved.length : Int) := by omega
          by_cases hiF : i < m.firing.length
          · have hiFi : (i : Int) < (m.firing.length : Int) := by omega
            have hi0 : (0 : Int) ≤ (i : Int) := by omega
            go_upto_region 11 with (fail)
            have hrow := ListsC.below HF.out (HB1.out.trans (HBo.out.mono HB1.out.size))
            obtain ⟨ad1, c9, V9, hA9, _, hc9, hV9⟩ := hrow.at hiF
            injection hA9 with hA9 _ hcc
            subst hA9
            subst hcc
            obtain ⟨Aj, cj, rfl, hcj, hCj⟩ := hV9
            obtain ⟨lj, hlj⟩ : ∃ l, m.firing[i] = l := ⟨_, rfl⟩
            rw [hlj] at hc9 hCj hcj
            have HC := Lib.hid hCj
            clear hCj hrow hlj
            by_cases h12 : 12 < lj.length
            · have h12i : (12 : Int) < (lj.length : Int) := by omega
              go_wp2
              go_ret
              first | exact ⟨_, rfl, HB1.out.trans (HBo.out.mono HB1.out.size)⟩ | exact HB1.out.trans (HBo.out.mono HB1.out.size)
            · have h12i : ¬ (12 : Int) < (lj.length : Int) := by omega
              go_wp2_with fail
              go_loopw [5, 9] (fun v5 v9 wi => LiIn wr lj v5 v9 wi) (fun _ v _ => lj.length - (intOf v).toNat)
              case atStart => exact ⟨n, 0, rfl, rfl, hn, Nat.zero_le _, Below.refl _ _⟩
              case round =>
                obtain ⟨n2, j, rfl, rfl, hn2, hj, hbi⟩ := hrel
                have HBi := Lib.hid hbi
                have y9 := pw_cell_below hbi hc9
                have yq3 := pw_cell_below hbi e3
                have yq4 := pw_cell_below hbi e4
                by_cases hjl : j < lj.length
                · have hji : (j : Int) < (lj.length : Int) := by omega
                  have hj0 : (0 : Int) ≤ (j : Int) := by omega
                  obtain ⟨ad2, rfl, hx0, hx1⟩ := pair_at HC.out hbi hjl
                  obtain ⟨x, hx⟩ : ∃ x, lj[j] = x := ⟨_, rfl⟩
                  rw [hx] at hx0 hx1
                  obtain ⟨mv, hmv⟩ : ∃ mv : Nat, min (x.f1.size : Int) 2001 = (mv : Int) ∧ mv ≤ 2001 := by
                    by_cases hm : x.f1.size ≤ 2001
                    · exact ⟨x.f1.size, Int.min_eq_left (by omega), hm⟩
                    · exact ⟨2001, Int.min_eq_right (by omega), Nat.le_refl _⟩
                  obtain ⟨hmv, hmv2⟩ := hmv
                  have hw1 : IntKind.i64.wrap ((j : Int) + 1) = ((j + 1 : Nat) : Int) := by rw [IntKind.wrap_i64]; omega
                  have hw2 : IntKind.i64.wrap ((n2 : Int) + (mv : Int)) = ((n2 + mv : Nat) : Int) := by rw [IntKind.wrap_i64]; omega
                  have hw3 : IntKind.i64.wrap ((2000 : Int) + 1) = 2001 := by rw [IntKind.wrap_i64]; omega
                  clear hx hbi
                  by_cases hov : 2000 < n2 + mv
                  · have hovi : (2000 : Int) < ((n2 + mv : Nat) : Int) := by omega
                    go_wp2
                    go_ret
                    first | exact ⟨_, rfl, HB1.out.trans ((HBo.out.trans (HBi.out.mono HBo.out.size)).mono HB1.out.size)⟩ | exact HB1.out.trans ((HBo.out.trans (HBi.out.mono HBo.out.size)).mono HB1.out.size)
                  · have hovi : ¬ (2000 : Int) < ((n2 + mv : Nat) : Int) := by omega
                    go_wp2
                    go_roundw
                    case rel => exact ⟨n2 + mv, j + 1, rfl, rfl, by omega, hjl, HBi.out⟩
                    case measure => simp [intOf]; omega
                · have hji : ¬ (j : Int) < (lj.length : Int) := by omega
                  clear hbi
                  go_wp2
                  go_roundw
                  case rel => exact ⟨n2, i + 1, rfl, rfl, hn2, by omega, HBo.out.trans (HBi.out.mono HBo.out.size)⟩
                  case measure => simp [intOf]; omega
          · have hiFi : ¬ (i : Int) < (m.firing.length : Int) := by omega
            obtain ⟨k, hk⟩ : ∃ k, i - m.firing.length = k := ⟨_, rfl⟩
            have hkR : k < m.resolved.length := by omega
            have hki : (k : Int) < (m.resolved.length : Int) := by omega
            have hk0 : (0 : Int) ≤ (k : Int) := by omega
            have hwk : IntKind.i64.wrap ((i : Int) - (m.firing.length : Int)) = (k : Int) := by rw [IntKind.wrap_i64]; omega
            clear hk
            go_upto_region 11 with (fail)
            have hrow := ListsC.below HR.out (HB1.out.trans (HBo.out.mono HB1.out.size))
            obtain ⟨ad1, c9, V9, hA9, _, hc9, hV9⟩ := hrow.at hkR
            injection hA9 with hA9 _ hcc
            subst hA9
            subst hcc
            obtain ⟨Aj, cj, rfl, hcj, hCj⟩ := hV9
            obtain ⟨lj, hlj⟩ : ∃ l, m.resolved[k] = l := ⟨_, rfl⟩
            rw [hlj] at hc9 hCj hcj
            have HC := Lib.hid hCj
            clear hCj hrow hlj
            by_cases h12 : 12 < lj.length
            · have h12i : (12 : Int) < (lj.length : Int) := by omega
              go_wp2
              go_ret
              first | exact ⟨_, rfl, HB1.out.trans (HBo.out.mono HB1.out.size)⟩ | exact HB1.out.trans (HBo.out.mono HB1.out.size)
            · have h12i : ¬ (12 : Int) < (lj.length : Int) := by omega
              go_wp2_with fail
              go_loopw [5, 9] (fun v5 v9 wi => LiIn wr lj v5 v9 wi) (fun _ v _ => lj.length - (intOf v).toNat)
              case atStart => exact ⟨n, 0, rfl, rfl, hn, Nat.zero_le _, Below.refl _ _⟩
              case round =>
                obtain ⟨n2, j, rfl, rfl, hn2, hj, hbi⟩ := hrel
                have HBi := Lib.hid hbi
                have y9 := pw_cell_below hbi hc9
                have yq3 := pw_cell_below hbi e3
                have yq4 := pw_cell_below hbi e4
                by_cases hjl : j < lj.length
                · have hji : (j : Int) < (lj.length : Int) := by omega
                  have hj0 : (0 : Int) ≤ (j : Int) := by omega
                  obtain ⟨ad2, rfl, hx0, hx1⟩ := pair_at HC.out hbi hjl
                  obtain ⟨x, hx⟩ : ∃ x, lj[j] = x := ⟨_, rfl⟩
                  rw [hx] at hx0 hx1
                  obtain ⟨mv, hmv⟩ : ∃ mv : Nat, min (x.f1.size : Int) 2001 = (mv : Int) ∧ mv ≤ 2001 := by
                    by_cases hm : x.f1.size ≤ 2001
                    · exact ⟨x.f1.size, Int.min_eq_left (by omega), hm⟩
                    · exact ⟨2001, Int.min_eq_right (by omega), Nat.le_refl _⟩
                  obtain ⟨hmv, hmv2⟩ := hmv
                  have hw1 : IntKind.i64.wrap ((j : Int) + 1) = ((j + 1 : Nat) : Int) := by rw [IntKind.wrap_i64]; omega
                  have hw2 : IntKind.i64.wrap ((n2 : Int) + (mv : Int)) = ((n2 + mv : Nat) : Int) := by rw [IntKind.wrap_i64]; omega
                  have hw3 : IntKind.i64.wrap ((2000 : Int) + 1) = 2001 := by rw [IntKind.wrap_i64]; omega
                  clear hx hbi
                  by_cases hov : 2000 < n2 + mv
                  · have hovi : (2000 : Int) < ((n2 + mv : Nat) : Int) := by omega
                    go_wp2
                    go_ret
                    first | exact ⟨_, rfl, HB1.out.trans ((HBo.out.trans (HBi.out.mono HBo.out.size)).mono HB1.out.size)⟩ | exact HB1.out.trans ((HBo.out.trans (HBi.out.mono HBo.out.size)).mono HB1.out.size)
                  · have hovi : ¬ (2000 : Int) < ((n2 + mv : Nat) : Int) := by omega
                    go_wp2
                    go_roundw
                    case rel => exact ⟨n2 + mv, j + 1, rfl, rfl, by omega, hjl, HBi.out⟩
                    case measure => simp [intOf]; omega
                · have hji : ¬ (j : Int) < (lj.length : Int) := by omega
                  clear hbi
                  go_wp2
                  go_roundw
                  case rel => exact ⟨n2, i + 1, rfl, rfl, hn2, by omega, HBo.out.trans (HBi.out.mono HBo.out.size)⟩
                  case measure => simp [intOf]; omega
        · have hifi : ¬ (i : Int) < (m.firing.length : Int) + (m.resolved.length : Int) := by omega
          go_wp2
          go_ret
          first | exact ⟨_, rfl, HB1.out.trans (HBo.out.mono HB1.out.size)⟩ | exact HB1.out.trans (HBo.out.mono HB1.out.size)
end Go.Proofs.YtllhpkpckjacfaaGreatDoor
