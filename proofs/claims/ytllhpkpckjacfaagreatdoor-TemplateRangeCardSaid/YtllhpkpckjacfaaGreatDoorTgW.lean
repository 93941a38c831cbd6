/- TemplateRange walked. -/
import Derived.Test.YtllhpkpckjacfaaGreatDoorTgA
namespace Go.Proofs.YtllhpkpckjacfaaGreatDoor
open Go.RowKit Go.Proofs.YtllhpkpckjacfaaGreatDoorW.PrintWords PTemplateFilters
set_option linter.unusedVariables false
set_option linter.unusedSimpArgs false

theorem str_cat (a b : Bytes) : str a ++ str b = str (a ++ b) := by
  apply ByteArray.ext
  simp [str]
theorem range_str (a b : Bytes) : ({ data := #[123, 123, 114, 97, 110, 103, 101, 32, 102, 105, 114, 105, 110, 103, 125, 125] } : ByteArray) ++ str a ++ { data := #[123, 123, 108, 97, 98, 101, 108, 32, 97, 125, 125] } ++ str b ++ { data := #[123, 123, 101, 110, 100, 125, 125] } = str (rangeT a b) := by
  rw [show ({ data := #[123, 123, 114, 97, 110, 103, 101, 32, 102, 105, 114, 105, 110, 103, 125, 125] } : ByteArray) = str (inB bRange []) from rfl, show ({ data := #[123, 123, 108, 97, 98, 101, 108, 32, 97, 125, 125] } : ByteArray) = str (inB bLabel []) from rfl, show ({ data := #[123, 123, 101, 110, 100, 125, 125] } : ByteArray) = str (inB bEnd []) from rfl, str_cat, str_cat, str_cat, str_cat]
  congr 1
  simp [rangeT, inB]
theorem last_step {l : List S40} {j : Nat} (hj : j < l.length) (n : Bytes) : lastM (l.take (j + 1)) n = if bts l[j].f0 = n then bts l[j].f1 else lastM (l.take j) n := by
  unfold lastM
  rw [List.take_succ_eq_append_getElem hj, List.foldl_append]
  rfl
theorem range_short {a b : Bytes} (hla : a.length ≤ 100) (hlb : b.length ≤ 100) : (rangeT a b).length ≤ 4096 := by
  have : (rangeT a b).length = 34 + a.length + b.length := by simp [rangeT, inB, bRange, bLabel, bEnd]; omega
  omega
theorem take_len {m : MsgM} (h : chkM m = 0) {a b : Bytes} (hla : a.length ≤ 100) (hlb : b.length ≤ 100) (i : Nat) : ((m.firing.take i).flatMap (fun al => a ++ getM al [97] ++ b)).length ≤ 16896 := by
  have h1 := flat_len (m.firing.take i) (fun al => a ++ getM al [97] ++ b) 264 (fun al hal => by
    have := get_64 h (List.mem_of_mem_take hal)
    simp; omega)
  have h2 := (chk_zero h).1
  have h3 : (m.firing.take i).length * 264 ≤ 64 * 264 := Nat.mul_le_mul_right _ (by rw [List.length_take]; omega)
  omega
/-- What the loops keep. -/
def RgOut (w : World) (m : MsgM) (a b : Bytes) (v9 v10 : Value) (wr : World) : Prop := ∃ i : Nat, v10 = .int .i64 i ∧ i ≤ m.firing.length ∧ v9 = .string (str ((m.firing.take i).flatMap (fun al => a ++ getM al [97] ++ b))) ∧ Below w.heap.size w wr
def RgIn (w : World) (l : List S40) (v11 v12 : Value) (wr : World) : Prop := ∃ j : Nat, v12 = .int .i64 j ∧ j ≤ l.length ∧ v11 = .string (str (lastM (l.take j) [97])) ∧ Below w.heap.size w wr
theorem flat_step {m : MsgM} {a b x : Bytes} {i : Nat} (hi : i < m.firing.length) (hx : (m.firing.take i).flatMap (fun al => a ++ getM al [97] ++ b) = x) : (m.firing.take (i + 1)).flatMap (fun al => a ++ getM al [97] ++ b) = x ++ a ++ getM m.firing[i] [97] ++ b := by
  rw [List.take_succ_eq_append_getElem hi, List.flatMap_append, hx]
  simp
set_option maxRecDepth 100000 in
set_option maxHeartbeats 4000000 in
theorem templateRange_b {w : World} (hT : Tabs w) (a b : Bytes) (m : MsgM) (pre : List Value) (hM : MsgC w m pre) : Calls Tryz.prog 5 #[.string (str a), .string (str b), .agg pre.toArray] w fun e w' => e = .returned (.bool true) ∧ Below w.heap.size w w' := by
  have HAw : Hid (∀ w1, Below w.heap.size w w1 → Calls Tryz.prog 13 #[] w1 fun e w' => e = .returned (.bool true) ∧ Below w1.heap.size w1 w') := Lib.hid (fun w1 hb => awake_any (hT.below hb))
  have HLi : Hid (∀ w1, Below w.heap.size w w1 → Calls Tryz.prog 16 #[.agg pre.toArray, .int .i64 2000] w1 (LiPost w1)) := Lib.hid (fun w1 hb => light_any (hM.below hb))
  have HCk : Hid (∀ w1, Below w.heap.size w w1 → Calls Tryz.prog 17 #[.agg pre.toArray] w1 fun e w' => e = .returned (.int .i64 (chkM m)) ∧ Below w1.heap.size w1 w') := Lib.hid (fun w1 hb => tcheck_any (hM.below hb))
  have HM := Lib.hid hM
  obtain ⟨Vg, Vf, Vr, rfl, hg, hf, hr⟩ := hM
  have HF := Lib.hid hf
  obtain ⟨Af, cf, rfl, hcf⟩ := hf.form
  obtain ⟨Ar, cr, rfl, hcr⟩ := hr.form
  obtain ⟨Ag, cg, rfl, hcg, hCg⟩ := hg
  have hza := str_size a
  have hzb := str_size b
  have hb1 : Below w.heap.size w (w.alloc (.cells #[.string (str m.recv), .string (str m.key), .slice Ag m.group.length cg, .slice Af m.firing.length cf, .slice Ar m.resolved.length cr] 33)) := below_alloc (Below.refl _ _) _
  have hbx : (w.alloc (.cells #[.string (str m.recv), .string (str m.key), .slice Ag m.group.length cg, .slice Af m.firing.length cf, .slice Ar m.resolved.length cr] 33)).heap[w.heap.size]? = some (.cells #[.string (str m.recv), .string (str m.key), .slice Ag m.group.length cg, .slice Af m.firing.length cf, .slice Ar m.resolved.length cr] 33 (0, 0)) := heap_alloc_new w _
  have HB1 := Lib.hid hb1
  have HBx := Lib.hid hbx
  obtain ⟨cm, hcm⟩ : ∃ c, chkM m = c := ⟨_, rfl⟩
  have HCm := Lib.hid hcm
  rw [hcm] at HCk
  clear hf hr hCg hb1 hbx hcm
  go_enter Tryz.func5, Tryz.ntmps5
  go_upto_region 1 with (fail)
  generalize hW1 : w.alloc _ = W1 at HB1 HBx ⊢
  have d0 : W1.cell? ⟨w.heap.size, 0, none⟩ = some (.string (str m.recv)) := (blk_cell HBx.out 0).trans rfl
  have d1 : W1.cell? ⟨w.heap.size, 1, none⟩ = some (.string (str m.key)) := (blk_cell HBx.out 1).trans rfl
  have d2 : W1.cell? ⟨w.heap.size, 2, none⟩ = some (.slice Ag m.group.length cg) := (blk_cell HBx.out 2).trans rfl
  have d3 : W1.cell? ⟨w.heap.size, 3, none⟩ = some (.slice Af m.firing.length cf) := (blk_cell HBx.out 3).trans rfl
  have d4 : W1.cell? ⟨w.heap.size, 4, none⟩ = some (.slice Ar m.resolved.length cr) := (blk_cell HBx.out 4).trans rfl
  clear hW1
  go_cut [38] (fun v wx => Guard W1 m v (a.length ≤ 100 ∧ b.length ≤ 100 ∧ hasM a = false ∧ hasM b = false) wx)
  case first =>
    by_cases hla : 100 < a.length
    · have hi : (100 : Int) < (a.length : Int) := by omega
      go_wp2
      go_meet
      case rel => exact ⟨_, rfl, (by first | exact Below.refl _ _ | exact hb2.trans (hb3.mono hb2.size) | exact hb2), (by first | exact fun h => Bool.noConfusion h | exact fun _ => ⟨HCm.out, by omega, by omega, HGa.out, HGb.out⟩)⟩
    · have hi : ¬ (100 : Int) < (a.length : Int) := by omega
      by_cases hlb : 100 < b.length
      · have hi2 : (100 : Int) < (b.length : Int) := by omega
        go_wp2
        go_meet
        case rel => exact ⟨_, rfl, (by first | exact Below.refl _ _ | exact hb2.trans (hb3.mono hb2.size) | exact hb2), (by first | exact fun h => Bool.noConfusion h | exact fun _ => ⟨HCm.out, by omega, by omega, HGa.out, HGb.out⟩)⟩
      · have hi2 : ¬ (100 : Int) < (b.length : Int) := by omega
        have HhA : Hid (∀ w1 : World, Calls Tryz.prog 19 #[.string (str a)] w1 fun e w' => e = .returned (.bool (hasM a)) ∧ w' = w1) := Lib.hid (fun w1 => has_any w1 a (by omega))
        have HhB : Hid (∀ w1 : World, Calls Tryz.prog 19 #[.string (str b)] w1 fun e w' => e = .returned (.bool (hasM b)) ∧ w' = w1) := Lib.hid (fun w1 => has_any w1 b (by omega))
        obtain ⟨ga, hga⟩ : ∃ g, hasM a = g := ⟨_, rfl⟩
        obtain ⟨gb, hgb⟩ : ∃ g, hasM b = g := ⟨_, rfl⟩
        have HGa := Lib.hid hga
        have HGb := Lib.hid hgb
        rw [hga] at HhA
        rw [hgb] at HhB
        clear hga hgb
        by_cases hc0 : cm = 0
        · subst hc0
          cases ga
          · cases gb
            · go_wp2_with (first | (go_at_call 16; (refine (HLi.out W1 HB1.out).mono ?_); rintro e w2 ⟨b0, rfl, hb2⟩; have hbq := blk_below HBx.out hb2; have e0 : w2.cell? ⟨w.heap.size, 0, none⟩ = some (.string (str m.recv)) := (blk_cell hbq 0).trans rfl; have e1 : w2.cell? ⟨w.heap.size, 1, none⟩ = some (.string (str m.key)) := (blk_cell hbq 1).trans rfl; have e2 : w2.cell? ⟨w.heap.size, 2, none⟩ = some (.slice Ag m.group.length cg) := (blk_cell hbq 2).trans rfl; have e3 : w2.cell? ⟨w.heap.size, 3, none⟩ = some (.slice Af m.firing.length cf) := (blk_cell hbq 3).trans rfl; have e4 : w2.cell? ⟨w.heap.size, 4, none⟩ = some (.slice Ar m.resolved.length cr) := (blk_cell hbq 4).trans rfl; clear hbq) | (go_at_call 17; (refine (HCk.out w2 (HB1.out.trans (hb2.mono HB1.out.size))).mono ?_); rintro e w3 ⟨rfl, hb3⟩) | (go_at_call 19; (refine (HhA.out w3).mono ?_); rintro e w4 ⟨rfl, rfl⟩) | (go_at_call 19; (refine (HhB.out w4).mono ?_); rintro e w5 ⟨rfl, rfl⟩))
              all_goals
                go_meet
                case rel => exact ⟨_, rfl, (by first | exact Below.refl _ _ | exact hb2.trans (hb3.mono hb2.size) | exact hb2), (by first | exact fun h => Bool.noConfusion h | exact fun _ => ⟨HCm.out, by omega, by omega, HGa.out, HGb.out⟩)⟩
            · go_wp2_with (first | (go_at_call 16; (refine (HLi.out W1 HB1.out).mono ?_); rintro e w2 ⟨b0, rfl, hb2⟩; have hbq := blk_below HBx.out hb2; have e0 : w2.cell? ⟨w.heap.size, 0, none⟩ = some (.string (str m.recv)) := (blk_cell hbq 0).trans rfl; have e1 : w2.cell? ⟨w.heap.size, 1, none⟩ = some (.string (str m.key)) := (blk_cell hbq 1).trans rfl; have e2 : w2.cell? ⟨w.heap.size, 2, none⟩ = some (.slice Ag m.group.length cg) := (blk_cell hbq 2).trans rfl; have e3 : w2.cell? ⟨w.heap.size, 3, none⟩ = some (.slice Af m.firing.length cf) := (blk_cell hbq 3).trans rfl; have e4 : w2.cell? ⟨w.heap.size, 4, none⟩ = some (.slice Ar m.resolved.length cr) := (blk_cell hbq 4).trans rfl; clear hbq) | (go_at_call 17; (refine (HCk.out w2 (HB1.out.trans (hb2.mono HB1.out.size))).mono ?_); rintro e w3 ⟨rfl, hb3⟩) | (go_at_call 19; (refine (HhA.out w3).mono ?_); rintro e w4 ⟨rfl, rfl⟩) | (go_at_call 19; (refine (HhB.out w4).mono ?_); rintro e w5 ⟨rfl, rfl⟩))
              all_goals
                go_meet
                case rel => exact ⟨_, rfl, (by first | exact Below.refl _ _ | exact hb2.trans (hb3.mono hb2.size) | exact hb2), (by first | exact fun h => Bool.noConfusion h | exact fun _ => ⟨HCm.out, by omega, by omega, HGa.out, HGb.out⟩)⟩
          · go_wp2_with (first | (go_at_call 16; (refine (HLi.out W1 HB1.out).mono ?_); rintro e w2 ⟨b0, rfl, hb2⟩; have hbq := blk_below HBx.out hb2; have e0 : w2.cell? ⟨w.heap.size, 0, none⟩ = some (.string (str m.recv)) := (blk_cell hbq 0).trans rfl; have e1 : w2.cell? ⟨w.heap.size, 1, none⟩ = some (.string (str m.key)) := (blk_cell hbq 1).trans rfl; have e2 : w2.cell? ⟨w.heap.size, 2, none⟩ = some (.slice Ag m.group.length cg) := (blk_cell hbq 2).trans rfl; have e3 : w2.cell? ⟨w.heap.size, 3, none⟩ = some (.slice Af m.firing.length cf) := (blk_cell hbq 3).trans rfl; have e4 : w2.cell? ⟨w.heap.size, 4, none⟩ = some (.slice Ar m.resolved.length cr) := (blk_cell hbq 4).trans rfl; clear hbq) | (go_at_call 17; (refine (HCk.out w2 (HB1.out.trans (hb2.mono HB1.out.size))).mono ?_); rintro e w3 ⟨rfl, hb3⟩) | (go_at_call 19; (refine (HhA.out w3).mono ?_); rintro e w4 ⟨rfl, rfl⟩) | (go_at_call 19; (refine (HhB.out w4).mono ?_); rintro e w5 ⟨rfl, rfl⟩))
            all_goals
              go_meet
              case rel => exact ⟨_, rfl, (by first | exact Below.refl _ _ | exact hb2.trans (hb3.mono hb2.size) | exact hb2), (by first | exact fun h => Bool.noConfusion h | exact fun _ => ⟨HCm.out, by omega, by omega, HGa.out, HGb.out⟩)⟩
        · have hc1 : (cm != 0) = true := by rw [bne_iff_ne]; exact hc0
          go_wp2_with (first | (go_at_call 16; (refine (HLi.out W1 HB1.out).mono ?_); rintro e w2 ⟨b0, rfl, hb2⟩; have hbq := blk_below HBx.out hb2; have e0 : w2.cell? ⟨w.heap.size, 0, none⟩ = some (.string (str m.recv)) := (blk_cell hbq 0).trans rfl; have e1 : w2.cell? ⟨w.heap.size, 1, none⟩ = some (.string (str m.key)) := (blk_cell hbq 1).trans rfl; have e2 : w2.cell? ⟨w.heap.size, 2, none⟩ = some (.slice Ag m.group.length cg) := (blk_cell hbq 2).trans rfl; have e3 : w2.cell? ⟨w.heap.size, 3, none⟩ = some (.slice Af m.firing.length cf) := (blk_cell hbq 3).trans rfl; have e4 : w2.cell? ⟨w.heap.size, 4, none⟩ = some (.slice Ar m.resolved.length cr) := (blk_cell hbq 4).trans rfl; clear hbq) | (go_at_call 17; (refine (HCk.out w2 (HB1.out.trans (hb2.mono HB1.out.size))).mono ?_); rintro e w3 ⟨rfl, hb3⟩) | (go_at_call 19; (refine (HhA.out w3).mono ?_); rintro e w4 ⟨rfl, rfl⟩) | (go_at_call 19; (refine (HhB.out w4).mono ?_); rintro e w5 ⟨rfl, rfl⟩))
          all_goals
            go_meet
            case rel => exact ⟨_, rfl, (by first | exact Below.refl _ _ | exact hb2.trans (hb3.mono hb2.size) | exact hb2), (by first | exact fun h => Bool.noConfusion h | exact fun _ => ⟨HCm.out, by omega, by omega, HGa.out, HGb.out⟩)⟩
  case rest =>
    obtain ⟨B, rfl, hbg, hg0⟩ := hcut
    generalize wc = W2 at hbg ⊢
    have hbw := HB1.out.trans (hbg.mono HB1.out.size)
    have HBw := Lib.hid hbw
    have hbq := blk_below HBx.out hbg
    have HBq := Lib.hid hbq
    clear hbg hbw hbq
    cases B
    rotate_left
    · have HA2 := Lib.hid (HAw.out W2 HBw.out)
      go_wp2_with (first | (go_at_call 13; (refine HA2.out.mono ?_); rintro e w8 ⟨rfl, hb8⟩))
      go_ret
      exact ⟨rfl, HBw.out.trans (hb8.mono HBw.out.size)⟩
    · obtain ⟨hc0, hla, hlb, hga, hgb⟩ := hg0 rfl
      clear hg0
      have f0 : W2.cell? ⟨w.heap.size, 0, none⟩ = some (.string (str m.recv)) := (blk_cell HBq.out 0).trans rfl
      have f1 : W2.cell? ⟨w.heap.size, 1, none⟩ = some (.string (str m.key)) := (blk_cell HBq.out 1).trans rfl
      have f2 : W2.cell? ⟨w.heap.size, 2, none⟩ = some (.slice Ag m.group.length cg) := (blk_cell HBq.out 2).trans rfl
      have f3 : W2.cell? ⟨w.heap.size, 3, none⟩ = some (.slice Af m.firing.length cf) := (blk_cell HBq.out 3).trans rfl
      have f4 : W2.cell? ⟨w.heap.size, 4, none⟩ = some (.slice Ar m.resolved.length cr) := (blk_cell HBq.out 4).trans rfl
      have HRe0 := Render_any (hT.below HBw.out) (HM.out.below HBw.out) (rangeT a b) (range_short hla hlb) (parse_range hga hgb hla hlb) hc0 (good_range hc0 a b) (by rw [rend_range]; have := range_len hc0 hla hlb; omega) (by simp)
      rw [rend_range, ← range_str] at HRe0
      have HRe := Lib.hid HRe0
      clear HRe0
      obtain ⟨R, hR⟩ : ∃ R, rangeM m a b = R := ⟨_, rfl⟩
      have HR := Lib.hid hR
      rw [hR] at HRe
      clear hR
      go_upto_region 4 with (first | (go_at_call 18; (refine HRe.out.mono ?_); rintro e w7 ⟨rfl, hb7⟩))
      have yq := blk_below HBq.out hb7
      have g3 : w7.cell? ⟨w.heap.size, 3, none⟩ = some (.slice Af m.firing.length cf) := (blk_cell yq 3).trans rfl
      have HB7 := Lib.hid (HBw.out.trans (hb7.mono HBw.out.size))
      clear yq hb7 f0 f1 f2 f3 f4 d0 d1 d2 d3 d4
      go_wp2_with fail
      go_loopw [9, 10] (fun v9 v10 wr => RgOut w7 m a b v9 v10 wr) (fun _ v _ => m.firing.length - (intOf v).toNat)
      case atStart => exact ⟨0, rfl, Nat.zero_le _, rfl, Below.refl _ _⟩
      case round =>
        obtain ⟨i, rfl, hi, rfl, hbo⟩ := hrel
        have HBo := Lib.hid hbo
        have e3 := pw_cell_below hbo g3
        clear hbo
        have h64 := (chk_zero hc0).1
        have hwi : IntKind.i64.wrap ((i : Int) + 1) = ((i + 1 : Nat) : Int) := by rw [IntKind.wrap_i64]; omega
        obtain ⟨X, hX⟩ : ∃ X, (m.firing.take i).flatMap (fun al => a ++ getM al [97] ++ b) = X := ⟨_, rfl⟩
        rw [hX]
        have HX := Lib.hid hX
        have hXs : (str X).size ≤ 16896 := by rw [str_size, ← hX]; exact take_len hc0 hla hlb i
        clear hX
        by_cases hiF : i < m.firing.length
        · have hiFi : (i : Int) < (m.firing.length : Int) := by omega
          have hi0 : (0 : Int) ≤ (i : Int) := by omega
          have hrow := ListsC.below HF.out (HB7.out.trans (HBo.out.mono HB7.out.size))
          obtain ⟨ad1, c9, V9, hA9, _, hc9, hV9⟩ := hrow.at hiF
          injection hA9 with hA9 _ hcc
          subst hA9
          subst hcc
          obtain ⟨Aj, cj, rfl, hcj, hCj⟩ := hV9
          have HSt := Lib.hid (last_get (check_zero (chkAll_mem (chk_zero hc0).2.2.2 m.firing[i] (List.getElem_mem hiF))).2.2 [97])
          have hlj8 := (check_zero (chkAll_mem (chk_zero hc0).2.2.2 m.firing[i] (List.getElem_mem hiF))).1
          have hv64 : (str (lastM m.firing[i] [97])).size ≤ 64 := by rw [str_size, HSt.out]; exact get_64 hc0 (List.getElem_mem hiF)
          have HFs := Lib.hid (flat_step hiF HX.out)
          obtain ⟨lj, hlj⟩ : ∃ l, m.firing[i] = l := ⟨_, rfl⟩
          rw [hlj] at hc9 hCj hcj HSt HFs hlj8 hv64
          have HC := Lib.hid hCj
          clear hCj hrow hlj
          go_wp2_with fail
          go_loopw [11, 12] (fun v11 v12 wi => RgIn wr lj v11 v12 wi) (fun _ v _ => lj.length - (intOf v).toNat)
          case atStart => exact ⟨0, rfl, Nat.zero_le _, rfl, Below.refl _ _⟩
          case round =>
            obtain ⟨j, rfl, hj, rfl, hbi⟩ := hrel
            have HBi := Lib.hid hbi
            have y9 := pw_cell_below hbi hc9
            have yq3 := pw_cell_below hbi e3
            by_cases hjl : j < lj.length
            · have hji : (j : Int) < (lj.length : Int) := by omega
              have hj0 : (0 : Int) ≤ (j : Int) := by omega
              have hw1 : IntKind.i64.wrap ((j : Int) + 1) = ((j + 1 : Nat) : Int) := by rw [IntKind.wrap_i64]; omega
              have HLs := Lib.hid (last_step hjl [97])
              obtain ⟨ad2, rfl, hx0, hx1⟩ := pair_at HC.out hbi hjl
              obtain ⟨x, hx⟩ : ∃ x, lj[j] = x := ⟨_, rfl⟩
              rw [hx] at hx0 hx1 HLs
              clear hbi hx
              obtain ⟨Y, hY⟩ : ∃ Y, lastM (lj.take j) [97] = Y := ⟨_, rfl⟩
              rw [hY] at HLs ⊢
              clear hY
              go_wp2_with fail
              · rename_i he
                have hn : bts x.f0 = [97] := by rw [ByteArray.toList_eq] at he; exact eq_of_beq he
                have hY : lastM (lj.take (j + 1)) [97] = bts x.f1 := by rw [HLs.out, if_pos hn]
                refine ⟨⟨j + 1, rfl, hjl, by rw [hY, str_bts], HBi.out⟩, ?_⟩
                simp [intOf]; omega
              · rename_i he
                have hn : ¬ bts x.f0 = [97] := by rw [ByteArray.toList_eq] at he; exact ne_of_beq_false he
                have hY : lastM (lj.take (j + 1)) [97] = Y := by rw [HLs.out, if_neg hn]
                refine ⟨⟨j + 1, rfl, hjl, by rw [hY], HBi.out⟩, ?_⟩
                simp [intOf]; omega
            · have hji : ¬ (j : Int) < (lj.length : Int) := by omega
              have hjL : lj.take j = lj := List.take_of_length_le (by omega)
              rw [hjL]
              clear hbi hjL
              go_wp2_with fail
              refine ⟨⟨i + 1, rfl, hiF, by rw [HFs.out, HSt.out, str_cat, str_cat, str_cat], HBo.out.trans (HBi.out.mono HBo.out.size)⟩, ?_⟩
              simp [intOf]; omega
        · have hiFi : ¬ (i : Int) < (m.firing.length : Int) := by omega
          have hXR : X = R := by
            rw [← HX.out, ← HR.out, List.take_of_length_le (by omega)]
            rfl
          subst hXR
          have HA3 := Lib.hid (HAw.out wr (HB7.out.trans (HBo.out.mono HB7.out.size)))
          go_wp2_with (first | (go_at_call 13; (refine HA3.out.mono ?_); rintro e w8 ⟨rfl, hb8⟩))
          go_ret
          exact ⟨rfl, HB7.out.trans ((HBo.out.trans (hb8.mono HBo.out.size)).mono HB7.out.size)⟩
theorem templateRange_holds0 {w : World} (hT : Tabs w) (a : ByteArray) (_ : a.size ≤ maxLen) (b : ByteArray) (_ : b.size ≤ maxLen) (m : MsgM) (pre : List Value) (hM : MsgC w m pre) : Calls Tryz.prog 5 #[.string a, .string b, .agg pre.toArray] w fun e w' => e = .returned (.bool true) ∧ Below w.heap.size w w' := by
  have := templateRange_b hT (bts a) (bts b) m pre hM
  rwa [str_bts, str_bts] at this
end Go.Proofs.YtllhpkpckjacfaaGreatDoor
