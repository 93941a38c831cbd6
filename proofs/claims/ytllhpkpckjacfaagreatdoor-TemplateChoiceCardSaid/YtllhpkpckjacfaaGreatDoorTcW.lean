/- TemplateChoice walked. -/
import Derived.Test.YtllhpkpckjacfaaGreatDoorTgA
namespace Go.Proofs.YtllhpkpckjacfaaGreatDoor
open Go.RowKit Go.Proofs.YtllhpkpckjacfaaGreatDoorW.PrintWords PTemplateFilters
set_option linter.unusedVariables false
set_option linter.unusedSimpArgs false

theorem cat_str (a b : Bytes) : str a ++ str b = str (a ++ b) := by
  apply ByteArray.ext
  simp [str]
theorem choice_str (a b : Bytes) : ({ data := #[123, 123, 105, 102, 32, 103, 114, 111, 117, 112, 32, 97, 125, 125] } : ByteArray) ++ str a ++ { data := #[123, 123, 101, 108, 115, 101, 125, 125] } ++ str b ++ { data := #[123, 123, 101, 110, 100, 125, 125] } = str (choiceT a b) := by
  rw [show ({ data := #[123, 123, 105, 102, 32, 103, 114, 111, 117, 112, 32, 97, 125, 125] } : ByteArray) = str (inB bIf []) from rfl, show ({ data := #[123, 123, 101, 108, 115, 101, 125, 125] } : ByteArray) = str (inB bElse []) from rfl, show ({ data := #[123, 123, 101, 110, 100, 125, 125] } : ByteArray) = str (inB bEnd []) from rfl, cat_str, cat_str, cat_str, cat_str]
  exact congrArg str (by simp [choiceT, inB])
theorem short_str (a : Bytes) : ({ data := #[123, 123, 105, 102, 32, 103, 114, 111, 117, 112, 32, 97, 125, 125] } : ByteArray) ++ str a ++ { data := #[123, 123, 101, 110, 100, 125, 125] } = str (shortT a) := by
  rw [show ({ data := #[123, 123, 105, 102, 32, 103, 114, 111, 117, 112, 32, 97, 125, 125] } : ByteArray) = str (inB bIf []) from rfl, show ({ data := #[123, 123, 101, 110, 100, 125, 125] } : ByteArray) = str (inB bEnd []) from rfl, cat_str, cat_str]
  exact congrArg str (by simp [shortT, inB])
theorem choice_short {a b : Bytes} (hla : a.length ≤ 100) (hlb : b.length ≤ 100) : (choiceT a b).length ≤ 4096 := by
  have : (choiceT a b).length = 29 + a.length + b.length := by simp [choiceT, inB, bIf, bElse, bEnd]; omega
  omega
theorem short_short {a : Bytes} (hla : a.length ≤ 100) : (shortT a).length ≤ 4096 := by
  have : (shortT a).length = 21 + a.length := by simp [shortT, inB, bIf, bEnd]; omega
  omega
theorem good_place {m : MsgM} (h : chkM m = 0) : ∀ x ∈ [Nd.place [wGroup, [97]] []], goodM m 1 [] x := by
  intro x hx
  rw [List.mem_singleton.1 hx]
  exact good_group h
theorem rend_short (m : MsgM) (a : Bytes) : rendsM m 2 [] [.choice [wGroup, [97]] [] (litL a) []] = if getM m.group [97] = [] then [] else a := rend_choice m a []
theorem good_short {m : MsgM} (h : chkM m = 0) (a : Bytes) : ∀ x ∈ [Nd.choice [wGroup, [97]] [] (litL a) []], goodM m 2 [] x := good_choice h a []
theorem pick_len {a b : Bytes} (hla : a.length ≤ 100) (hlb : b.length ≤ 100) (g : Bytes) : (if g = [] then b else a).length ≤ 65536 := by split <;> omega
set_option maxRecDepth 100000 in
set_option maxHeartbeats 4000000 in
theorem templateChoice_b {w : World} (hT : Tabs w) (a b : Bytes) (m : MsgM) (pre : List Value) (hM : MsgC w m pre) : Calls Tryz.prog 6 #[.string (str a), .string (str b), .agg pre.toArray] w fun e w' => e = .returned (.bool true) ∧ Below w.heap.size w w' := by
  have HAw : Hid (∀ w1, Below w.heap.size w w1 → Calls Tryz.prog 13 #[] w1 fun e w' => e = .returned (.bool true) ∧ Below w1.heap.size w1 w') := Lib.hid (fun w1 hb => awake_any (hT.below hb))
  have HLi : Hid (∀ w1, Below w.heap.size w w1 → Calls Tryz.prog 16 #[.agg pre.toArray, .int .i64 2000] w1 (LiPost w1)) := Lib.hid (fun w1 hb => light_any (hM.below hb))
  have HCk : Hid (∀ w1, Below w.heap.size w w1 → Calls Tryz.prog 17 #[.agg pre.toArray] w1 fun e w' => e = .returned (.int .i64 (chkM m)) ∧ Below w1.heap.size w1 w') := Lib.hid (fun w1 hb => tcheck_any (hM.below hb))
  have HM := Lib.hid hM
  obtain ⟨Vg, Vf, Vr, rfl, hg, hf, hr⟩ := hM
  have HF := Lib.hid hf
  obtain ⟨Af, cf, rfl, hcf⟩ := hf.form
  obtain ⟨Ar, cr, rfl, hcr⟩ := hr.form
  obtain ⟨Ag, cg, rfl, hcg, hCg⟩ := hg
  have hza := str_size a
  have hzb := str_size b
  have hb1 : Below w.heap.size w (w.alloc (.cells #[.string (str m.recv), .string (str m.key), .slice Ag m.group.length cg, .slice Af m.firing.length cf, .slice Ar m.resolved.length cr] 33)) := below_alloc (Below.refl _ _) _
  have hbx : (w.alloc (.cells #[.string (str m.recv), .string (str m.key), .slice Ag m.group.length cg, .slice Af m.firing.length cf, .slice Ar m.resolved.length cr] 33)).heap[w.heap.size]? = some (.cells #[.string (str m.recv), .string (str m.key), .slice Ag m.group.length cg, .slice Af m.firing.length cf, .slice Ar m.resolved.length cr] 33 (0, 0)) := heap_alloc_new w _
  have HB1 := Lib.hid hb1
  have HBx := Lib.hid hbx
  obtain ⟨cm, hcm⟩ : ∃ c, chkM m = c := ⟨_, rfl⟩
  have HCm := Lib.hid hcm
  rw [hcm] at HCk
  clear hf hr hCg hb1 hbx hcm
  go_enter Tryz.func6, Tryz.ntmps6
  go_upto_region 1 with (fail)
  generalize hW1 : w.alloc _ = W1 at HB1 HBx ⊢
  have d0 : W1.cell? ⟨w.heap.size, 0, none⟩ = some (.string (str m.recv)) := (blk_cell HBx.out 0).trans rfl
  have d1 : W1.cell? ⟨w.heap.size, 1, none⟩ = some (.string (str m.key)) := (blk_cell HBx.out 1).trans rfl
  have d2 : W1.cell? ⟨w.heap.size, 2, none⟩ = some (.slice Ag m.group.length cg) := (blk_cell HBx.out 2).trans rfl
  have d3 : W1.cell? ⟨w.heap.size, 3, none⟩ = some (.slice Af m.firing.length cf) := (blk_cell HBx.out 3).trans rfl
  have d4 : W1.cell? ⟨w.heap.size, 4, none⟩ = some (.slice Ar m.resolved.length cr) := (blk_cell HBx.out 4).trans rfl
  clear hW1
  go_cut [40] (fun v wx => Guard W1 m v (a.length ≤ 100 ∧ b.length ≤ 100 ∧ hasM a = false ∧ hasM b = false) wx)
  case first =>
    by_cases hla : 100 < a.length
    · have hi : (100 : Int) < (a.length : Int) := by omega
      go_wp2
      go_meet
      case rel => exact ⟨_, rfl, (by first | exact Below.refl _ _ | exact hb2.trans (hb3.mono hb2.size) | exact hb2), (by first | exact fun h => Bool.noConfusion h | exact fun _ => ⟨HCm.out, by omega, by omega, HGa.out, HGb.out⟩)⟩
    · have hi : ¬ (100 : Int) < (a.length : Int) := by omega
      by_cases hlb : 100 < b.length
      · have hi2 : (100 : Int) < (b.length : Int) := by omega
        go_wp2
        go_meet
        case rel => exact ⟨_, rfl, (by first | exact Below.refl _ _ | exact hb2.trans (hb3.mono hb2.size) | exact hb2), (by first | exact fun h => Bool.noConfusion h | exact fun _ => ⟨HCm.out, by omega, by omega, HGa.out, HGb.out⟩)⟩
      · have hi2 : ¬ (100 : Int) < (b.length : Int) := by omega
        have HhA : Hid (∀ w1 : World, Calls Tryz.prog 19 #[.string (str a)] w1 fun e w' => e = .returned (.bool (hasM a)) ∧ w' = w1) := Lib.hid (fun w1 => has_any w1 a (by omega))
        have HhB : Hid (∀ w1 : World, Calls Tryz.prog 19 #[.string (str b)] w1 fun e w' => e = .returned (.bool (hasM b)) ∧ w' = w1) := Lib.hid (fun w1 => has_any w1 b (by omega))
        obtain ⟨ga, hga⟩ : ∃ g, hasM a = g := ⟨_, rfl⟩
        obtain ⟨gb, hgb⟩ : ∃ g, hasM b = g := ⟨_, rfl⟩
        have HGa := Lib.hid hga
        have HGb := Lib.hid hgb
        rw [hga] at HhA
        rw [hgb] at HhB
        clear hga hgb
        by_cases hc0 : cm = 0
        · subst hc0
          cases ga
          · cases gb
            · go_wp2_with (first | (go_at_call 16; (refine (HLi.out W1 HB1.out).mono ?_); rintro e w2 ⟨b0, rfl, hb2⟩; have hbq := blk_below HBx.out hb2; have e0 : w2.cell? ⟨w.heap.size, 0, none⟩ = some (.string (str m.recv)) := (blk_cell hbq 0).trans rfl; have e1 : w2.cell? ⟨w.heap.size, 1, none⟩ = some (.string (str m.key)) := (blk_cell hbq 1).trans rfl; have e2 : w2.cell? ⟨w.heap.size, 2, none⟩ = some (.slice Ag m.group.length cg) := (blk_cell hbq 2).trans rfl; have e3 : w2.cell? ⟨w.heap.size, 3, none⟩ = some (.slice Af m.firing.length cf) := (blk_cell hbq 3).trans rfl; have e4 : w2.cell? ⟨w.heap.size, 4, none⟩ = some (.slice Ar m.resolved.length cr) := (blk_cell hbq 4).trans rfl; clear hbq) | (go_at_call 17; (refine (HCk.out w2 (HB1.out.trans (hb2.mono HB1.out.size))).mono ?_); rintro e w3 ⟨rfl, hb3⟩) | (go_at_call 19; (refine (HhA.out w3).mono ?_); rintro e w4 ⟨rfl, rfl⟩) | (go_at_call 19; (refine (HhB.out w4).mono ?_); rintro e w5 ⟨rfl, rfl⟩))
              all_goals
                go_meet
                case rel => exact ⟨_, rfl, (by first | exact Below.refl _ _ | exact hb2.trans (hb3.mono hb2.size) | exact hb2), (by first | exact fun h => Bool.noConfusion h | exact fun _ => ⟨HCm.out, by omega, by omega, HGa.out, HGb.out⟩)⟩
            · go_wp2_with (first | (go_at_call 16; (refine (HLi.out W1 HB1.out).mono ?_); rintro e w2 ⟨b0, rfl, hb2⟩; have hbq := blk_below HBx.out hb2; have e0 : w2.cell? ⟨w.heap.size, 0, none⟩ = some (.string (str m.recv)) := (blk_cell hbq 0).trans rfl; have e1 : w2.cell? ⟨w.heap.size, 1, none⟩ = some (.string (str m.key)) := (blk_cell hbq 1).trans rfl; have e2 : w2.cell? ⟨w.heap.size, 2, none⟩ = some (.slice Ag m.group.length cg) := (blk_cell hbq 2).trans rfl; have e3 : w2.cell? ⟨w.heap.size, 3, none⟩ = some (.slice Af m.firing.length cf) := (blk_cell hbq 3).trans rfl; have e4 : w2.cell? ⟨w.heap.size, 4, none⟩ = some (.slice Ar m.resolved.length cr) := (blk_cell hbq 4).trans rfl; clear hbq) | (go_at_call 17; (refine (HCk.out w2 (HB1.out.trans (hb2.mono HB1.out.size))).mono ?_); rintro e w3 ⟨rfl, hb3⟩) | (go_at_call 19; (refine (HhA.out w3).mono ?_); rintro e w4 ⟨rfl, rfl⟩) | (go_at_call 19; (refine (HhB.out w4).mono ?_); rintro e w5 ⟨rfl, rfl⟩))
              all_goals
                go_meet
                case rel => exact ⟨_, rfl, (by first | exact Below.refl _ _ | exact hb2.trans (hb3.mono hb2.size) | exact hb2), (by first | exact fun h => Bool.noConfusion h | exact fun _ => ⟨HCm.out, by omega, by omega, HGa.out, HGb.out⟩)⟩
          · go_wp2_with (first | (go_at_call 16; (refine (HLi.out W1 HB1.out).mono ?_); rintro e w2 ⟨b0, rfl, hb2⟩; have hbq := blk_below HBx.out hb2; have e0 : w2.cell? ⟨w.heap.size, 0, none⟩ = some (.string (str m.recv)) := (blk_cell hbq 0).trans rfl; have e1 : w2.cell? ⟨w.heap.size, 1, none⟩ = some (.string (str m.key)) := (blk_cell hbq 1).trans rfl; have e2 : w2.cell? ⟨w.heap.size, 2, none⟩ = some (.slice Ag m.group.length cg) := (blk_cell hbq 2).trans rfl; have e3 : w2.cell? ⟨w.heap.size, 3, none⟩ = some (.slice Af m.firing.length cf) := (blk_cell hbq 3).trans rfl; have e4 : w2.cell? ⟨w.heap.size, 4, none⟩ = some (.slice Ar m.resolved.length cr) := (blk_cell hbq 4).trans rfl; clear hbq) | (go_at_call 17; (refine (HCk.out w2 (HB1.out.trans (hb2.mono HB1.out.size))).mono ?_); rintro e w3 ⟨rfl, hb3⟩) | (go_at_call 19; (refine (HhA.out w3).mono ?_); rintro e w4 ⟨rfl, rfl⟩) | (go_at_call 19; (refine (HhB.out w4).mono ?_); rintro e w5 ⟨rfl, rfl⟩))
            all_goals
              go_meet
              case rel => exact ⟨_, rfl, (by first | exact Below.refl _ _ | exact hb2.trans (hb3.mono hb2.size) | exact hb2), (by first | exact fun h => Bool.noConfusion h | exact fun _ => ⟨HCm.out, by omega, by omega, HGa.out, HGb.out⟩)⟩
        · have hc1 : (cm != 0) = true := by rw [bne_iff_ne]; exact hc0
          go_wp2_with (first | (go_at_call 16; (refine (HLi.out W1 HB1.out).mono ?_); rintro e w2 ⟨b0, rfl, hb2⟩; have hbq := blk_below HBx.out hb2; have e0 : w2.cell? ⟨w.heap.size, 0, none⟩ = some (.string (str m.recv)) := (blk_cell hbq 0).trans rfl; have e1 : w2.cell? ⟨w.heap.size, 1, none⟩ = some (.string (str m.key)) := (blk_cell hbq 1).trans rfl; have e2 : w2.cell? ⟨w.heap.size, 2, none⟩ = some (.slice Ag m.group.length cg) := (blk_cell hbq 2).trans rfl; have e3 : w2.cell? ⟨w.heap.size, 3, none⟩ = some (.slice Af m.firing.length cf) := (blk_cell hbq 3).trans rfl; have e4 : w2.cell? ⟨w.heap.size, 4, none⟩ = some (.slice Ar m.resolved.length cr) := (blk_cell hbq 4).trans rfl; clear hbq) | (go_at_call 17; (refine (HCk.out w2 (HB1.out.trans (hb2.mono HB1.out.size))).mono ?_); rintro e w3 ⟨rfl, hb3⟩) | (go_at_call 19; (refine (HhA.out w3).mono ?_); rintro e w4 ⟨rfl, rfl⟩) | (go_at_call 19; (refine (HhB.out w4).mono ?_); rintro e w5 ⟨rfl, rfl⟩))
          all_goals
            go_meet
            case rel => exact ⟨_, rfl, (by first | exact Below.refl _ _ | exact hb2.trans (hb3.mono hb2.size) | exact hb2), (by first | exact fun h => Bool.noConfusion h | exact fun _ => ⟨HCm.out, by omega, by omega, HGa.out, HGb.out⟩)⟩
  case rest =>
    obtain ⟨B, rfl, hbg, hg0⟩ := hcut
    generalize wc = W2 at hbg ⊢
    have hbw := HB1.out.trans (hbg.mono HB1.out.size)
    have HBw := Lib.hid hbw
    have hbq := blk_below HBx.out hbg
    have HBq := Lib.hid hbq
    clear hbg hbw hbq
    cases B
    rotate_left
    · have HA2 := Lib.hid (HAw.out W2 HBw.out)
      go_wp2_with (first | (go_at_call 13; (refine HA2.out.mono ?_); rintro e w8 ⟨rfl, hb8⟩))
      go_ret
      exact ⟨rfl, HBw.out.trans (hb8.mono HBw.out.size)⟩
    · obtain ⟨hc0, hla, hlb, hga, hgb⟩ := hg0 rfl
      clear hg0
      have f0 : W2.cell? ⟨w.heap.size, 0, none⟩ = some (.string (str m.recv)) := (blk_cell HBq.out 0).trans rfl
      have f1 : W2.cell? ⟨w.heap.size, 1, none⟩ = some (.string (str m.key)) := (blk_cell HBq.out 1).trans rfl
      have f2 : W2.cell? ⟨w.heap.size, 2, none⟩ = some (.slice Ag m.group.length cg) := (blk_cell HBq.out 2).trans rfl
      have f3 : W2.cell? ⟨w.heap.size, 3, none⟩ = some (.slice Af m.firing.length cf) := (blk_cell HBq.out 3).trans rfl
      have f4 : W2.cell? ⟨w.heap.size, 4, none⟩ = some (.slice Ar m.resolved.length cr) := (blk_cell HBq.out 4).trans rfl
      obtain ⟨G, hG⟩ : ∃ G, getM m.group [97] = G := ⟨_, rfl⟩
      have HG := Lib.hid (fun (w1 : World) (hb : Below w.heap.size w w1) => Render_any (hT.below hb) (HM.out.below hb) groupT (by decide) parse_group hc0 (good_place hc0) (by rw [rend_group]; have := get_group hc0; omega) (by simp))
      have HC := Lib.hid (fun (w1 : World) (hb : Below w.heap.size w w1) => Render_any (hT.below hb) (HM.out.below hb) (choiceT a b) (choice_short hla hlb) (parse_choice hga hgb hla hlb) hc0 (good_choice hc0 a b) (by rw [rend_choice]; exact pick_len hla hlb _) (by simp))
      have HS := Lib.hid (fun (w1 : World) (hb : Below w.heap.size w w1) => Render_any (hT.below hb) (HM.out.below hb) (shortT a) (short_short hla) (parse_short hga hla) hc0 (good_short hc0 a) (by rw [rend_short]; exact pick_len hla (by simp) _) (by simp))
      rw [rend_group, hG, show str groupT = { data := #[123, 123, 103, 114, 111, 117, 112, 32, 97, 125, 125] } from rfl] at HG
      rw [rend_choice, hG, ← choice_str] at HC
      rw [rend_short, hG, ← short_str] at HS
      clear hG
      go_upto_region 4 with (first | (go_at_call 18; (refine (HG.out W2 HBw.out).mono ?_); rintro e w5 ⟨rfl, hb5⟩))
      have HB5 := Lib.hid (HBw.out.trans (hb5.mono HBw.out.size))
      have yq5 := blk_below HBq.out hb5
      have HQ5 := Lib.hid yq5
      have g0 : w5.cell? ⟨w.heap.size, 0, none⟩ = some (.string (str m.recv)) := (blk_cell yq5 0).trans rfl
      have g1 : w5.cell? ⟨w.heap.size, 1, none⟩ = some (.string (str m.key)) := (blk_cell yq5 1).trans rfl
      have g2 : w5.cell? ⟨w.heap.size, 2, none⟩ = some (.slice Ag m.group.length cg) := (blk_cell yq5 2).trans rfl
      have g3 : w5.cell? ⟨w.heap.size, 3, none⟩ = some (.slice Af m.firing.length cf) := (blk_cell yq5 3).trans rfl
      have g4 : w5.cell? ⟨w.heap.size, 4, none⟩ = some (.slice Ar m.resolved.length cr) := (blk_cell yq5 4).trans rfl
      clear yq5 hb5 f0 f1 f2 f3 f4 d0 d1 d2 d3 d4
      go_upto_region 5 with (first | (go_at_call 18; (refine (HC.out w5 HB5.out).mono ?_); rintro e w6 ⟨rfl, hb6⟩))
      have HB6 := Lib.hid (HB5.out.trans (hb6.mono HB5.out.size))
      have yq6 := blk_below HQ5.out hb6
      have k0 : w6.cell? ⟨w.heap.size, 0, none⟩ = some (.string (str m.recv)) := (blk_cell yq6 0).trans rfl
      have k1 : w6.cell? ⟨w.heap.size, 1, none⟩ = some (.string (str m.key)) := (blk_cell yq6 1).trans rfl
      have k2 : w6.cell? ⟨w.heap.size, 2, none⟩ = some (.slice Ag m.group.length cg) := (blk_cell yq6 2).trans rfl
      have k3 : w6.cell? ⟨w.heap.size, 3, none⟩ = some (.slice Af m.firing.length cf) := (blk_cell yq6 3).trans rfl
      have k4 : w6.cell? ⟨w.heap.size, 4, none⟩ = some (.slice Ar m.resolved.length cr) := (blk_cell yq6 4).trans rfl
      clear yq6 hb6 g0 g1 g2 g3 g4
      go_upto_region 6 with (first | (go_at_call 18; (refine (HS.out w6 HB6.out).mono ?_); rintro e w7 ⟨rfl, hb7⟩))
      have HB7 := Lib.hid (HB6.out.trans (hb7.mono HB6.out.size))
      clear hb7 k0 k1 k2 k3 k4
      have HA3 := Lib.hid (HAw.out w7 HB7.out)
      by_cases hG0 : G = []
      · subst hG0
        rw [if_pos rfl, if_pos rfl, show str [] = ({ data := #[] } : ByteArray) from rfl]
        go_wp2_with (first | (go_at_call 13; (refine HA3.out.mono ?_); rintro e w8 ⟨rfl, hb8⟩))
        go_ret
        exact ⟨rfl, HB7.out.trans (hb8.mono HB7.out.size)⟩
      · have hGe : ((str G).toList == ([] : Bytes)) = false := by rw [str_tl]; exact beq_eq_false_iff_ne.2 hG0
        rw [if_neg hG0, if_neg hG0]
        go_wp2_with (first | (go_at_call 13; (refine HA3.out.mono ?_); rintro e w8 ⟨rfl, hb8⟩))
        go_ret
        exact ⟨rfl, HB7.out.trans (hb8.mono HB7.out.size)⟩
theorem templateChoice_holds0 {w : World} (hT : Tabs w) (a : ByteArray) (_ : a.size ≤ maxLen) (b : ByteArray) (_ : b.size ≤ maxLen) (m : MsgM) (pre : List Value) (hM : MsgC w m pre) : Calls Tryz.prog 6 #[.string a, .string b, .agg pre.toArray] w fun e w' => e = .returned (.bool true) ∧ Below w.heap.size w w' := by
  have := templateChoice_b hT (bts a) (bts b) m pre hM
  rwa [str_bts, str_bts] at this
end Go.Proofs.YtllhpkpckjacfaaGreatDoor
