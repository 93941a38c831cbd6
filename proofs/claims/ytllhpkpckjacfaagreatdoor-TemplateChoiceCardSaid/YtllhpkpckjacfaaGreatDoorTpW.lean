/- TemplatePlain walked. -/
import Derived.Test.YtllhpkpckjacfaaGreatDoorTlW
namespace Go.Proofs.YtllhpkpckjacfaaGreatDoor
open Go.RowKit Go.Proofs.YtllhpkpckjacfaaGreatDoorW.PrintWords PTemplateFilters
set_option linter.unusedVariables false
set_option linter.unusedSimpArgs false

/-- No two brackets side by side, up to a place. -/
def noTwo (t : Bytes) (n : Nat) : Prop := ∀ j (h : j + 1 < t.length), j + 1 < n → ¬ (t[j]'(by omega) = 123 ∧ t[j + 1] = 123)
theorem plain_index {t : Bytes} (h : noTwo t t.length) : Lib.index t [123, 123] = -1 := by
  refine Lib.index_none (fun j hj => ?_)
  unfold Lib.occAt
  cases hd : List.isPrefixOf [123, 123] (t.drop j) with
  | false => rfl
  | true =>
    have hp := List.isPrefixOf_iff_prefix.1 hd
    obtain ⟨r, hr⟩ := hp
    have hl : j + 1 < t.length := by
      have := congrArg List.length hr
      rw [List.length_drop] at this
      simp at this
      omega
    have e0 : (t.drop j)[0]? = some 123 := by rw [← hr]; rfl
    have e1 : (t.drop j)[1]? = some 123 := by rw [← hr]; rfl
    rw [List.getElem?_drop, List.getElem?_eq_getElem (by omega)] at e0 e1
    injection e0 with e0
    injection e1 with e1
    exact absurd ⟨e0, e1⟩ (h j hl hl)
theorem plain_cut {t : Bytes} (h : noTwo t t.length) : Lib.cut t [123, 123] = (t, [], false) := by
  unfold Lib.cut
  rw [plain_index h]
  rfl
theorem plain_parse {t : Bytes} (hl : t.length ≤ 4096) (h : noTwo t t.length) : parseM t = .ok (if t = [] then [] else [.lit t]) := by
  have hs : splitT t = (if t = [] then [] else [⟨t, [], 0⟩], 0, 0) := by
    unfold splitT
    rw [if_neg (by omega), splitM]
    by_cases h0 : t = []
    · subst h0; rfl
    · have hp : 0 < t.length := List.length_pos_iff.2 h0
      rw [if_pos hp, List.drop_zero, plain_cut h, if_neg h0]
      simp only [if_neg h0, if_true, List.nil_append]
  unfold parseM
  rw [hs]
  by_cases h0 : t = []
  · subst h0; rfl
  · rw [if_neg h0, if_neg h0]
    rfl
theorem plain_rend (m : MsgM) {t : Bytes} : rendsM m 1 [] (if t = [] then [] else [.lit t]) = t := by
  by_cases h0 : t = []
  · subst h0; rfl
  · rw [if_neg h0]
    simp [rendsM, rendM]
theorem plain_good (m : MsgM) {t : Bytes} : ∀ x ∈ (if t = [] then [] else [Nd.lit t]), goodM m 1 [] x := by
  intro x hx
  by_cases h0 : t = []
  · rw [if_pos h0] at hx; simp at hx
  · rw [if_neg h0] at hx
    rw [List.mem_singleton.1 hx]
    trivial
theorem byte_123 {c : UInt8} : (c = 123) ↔ ((c.toNat : Int) = 123) := by
  constructor
  · rintro rfl; rfl
  · intro h
    have : c.toNat = (123 : UInt8).toNat := by show c.toNat = 123; omega
    exact UInt8.toNat_inj.1 this
theorem noTwo_step {t : Bytes} {i : Nat} (h : noTwo t i) (hi : 1 ≤ i) (hit : i < t.length) (hn : ¬ (((t[i - 1]'(by omega)).toNat : Int) = 123 ∧ ((t[i]'hit).toNat : Int) = 123)) : noTwo t (i + 1) := by
  intro j hj hl he
  by_cases hji : j + 1 < i
  · exact h j hj hji he
  · obtain rfl : i = j + 1 := by omega
    exact hn ⟨byte_123.1 he.1, byte_123.1 he.2⟩
/-- What the guard of the laws tells: may go on, and why. -/
def Guard (w : World) (m : MsgM) (v : Value) (P : Prop) (wx : World) : Prop := ∃ B, v = .bool B ∧ Below w.heap.size w wx ∧ (B = false → chkM m = 0 ∧ P)
def PlRel2 (w : World) (t : Bytes) (v : Value) (wr : World) : Prop := ∃ i : Nat, v = .int .i64 i ∧ 1 ≤ i ∧ (i ≤ t.length ∨ i = 1) ∧ noTwo t i ∧ Below w.heap.size w wr
set_option maxRecDepth 100000 in
set_option maxHeartbeats 1600000 in
theorem templatePlain_b {w : World} (hT : Tabs w) (t : Bytes) (m : MsgM) (pre : List Value) (hM : MsgC w m pre) : Calls Tryz.prog 4 #[.string (str t), .agg pre.toArray] w fun e w' => e = .returned (.bool true) ∧ Below w.heap.size w w' := by
  have HAw : Hid (∀ w1, Below w.heap.size w w1 → Calls Tryz.prog 13 #[] w1 fun e w' => e = .returned (.bool true) ∧ Below w1.heap.size w1 w') := Lib.hid (fun w1 hb => awake_any (hT.below hb))
  have HLi : Hid (∀ w1, Below w.heap.size w w1 → Calls Tryz.prog 16 #[.agg pre.toArray, .int .i64 2000] w1 (LiPost w1)) := Lib.hid (fun w1 hb => light_any (hM.below hb))
  have HCk : Hid (∀ w1, Below w.heap.size w w1 → Calls Tryz.prog 17 #[.agg pre.toArray] w1 fun e w' => e = .returned (.int .i64 (chkM m)) ∧ Below w1.heap.size w1 w') := Lib.hid (fun w1 hb => tcheck_any (hM.below hb))
  have HM := Lib.hid hM
  obtain ⟨Vg, Vf, Vr, rfl, hg, hf, hr⟩ := hM
  obtain ⟨Af, cf, rfl, hcf⟩ := hf.form
  obtain ⟨Ar, cr, rfl, hcr⟩ := hr.form
  obtain ⟨Ag, cg, rfl, hcg, hCg⟩ := hg
  have hz := str_size t
  have hb1 : Below w.heap.size w (w.alloc (.cells #[.string (str m.recv), .string (str m.key), .slice Ag m.group.length cg, .slice Af m.firing.length cf, .slice Ar m.resolved.length cr] 33)) := below_alloc (Below.refl _ _) _
  have hbx : (w.alloc (.cells #[.string (str m.recv), .string (str m.key), .slice Ag m.group.length cg, .slice Af m.firing.length cf, .slice Ar m.resolved.length cr] 33)).heap[w.heap.size]? = some (.cells #[.string (str m.recv), .string (str m.key), .slice Ag m.group.length cg, .slice Af m.firing.length cf, .slice Ar m.resolved.length cr] 33 (0, 0)) := heap_alloc_new w _
  have HB1 := Lib.hid hb1
  have HBx := Lib.hid hbx
  obtain ⟨cm, hcm⟩ : ∃ c, chkM m = c := ⟨_, rfl⟩
  have HCm := Lib.hid hcm
  rw [hcm] at HCk
  clear hf hr hCg hb1 hbx hcm
  go_enter Tryz.func4, Tryz.ntmps4
  go_upto_region 1 with (fail)
  generalize hW1 : w.alloc _ = W1 at HB1 HBx ⊢
  have d0 : W1.cell? ⟨w.heap.size, 0, none⟩ = some (.string (str m.recv)) := (blk_cell HBx.out 0).trans rfl
  have d1 : W1.cell? ⟨w.heap.size, 1, none⟩ = some (.string (str m.key)) := (blk_cell HBx.out 1).trans rfl
  have d2 : W1.cell? ⟨w.heap.size, 2, none⟩ = some (.slice Ag m.group.length cg) := (blk_cell HBx.out 2).trans rfl
  have d3 : W1.cell? ⟨w.heap.size, 3, none⟩ = some (.slice Af m.firing.length cf) := (blk_cell HBx.out 3).trans rfl
  have d4 : W1.cell? ⟨w.heap.size, 4, none⟩ = some (.slice Ar m.resolved.length cr) := (blk_cell HBx.out 4).trans rfl
  clear hW1
  go_cut [20] (fun v20 wx => Guard W1 m v20 (t.length ≤ 4096) wx)
  case first =>
    by_cases hc0 : cm = 0
    · subst hc0
      by_cases h4 : 4096 < t.length
      · have h4i : (4096 : Int) < (t.length : Int) := by omega
        go_wp2_with (first | (go_at_call 16; (refine (HLi.out W1 HB1.out).mono ?_); rintro e w2 ⟨b, rfl, hb2⟩; have hbq := blk_below HBx.out hb2; have e0 : w2.cell? ⟨w.heap.size, 0, none⟩ = some (.string (str m.recv)) := (blk_cell hbq 0).trans rfl; have e1 : w2.cell? ⟨w.heap.size, 1, none⟩ = some (.string (str m.key)) := (blk_cell hbq 1).trans rfl; have e2 : w2.cell? ⟨w.heap.size, 2, none⟩ = some (.slice Ag m.group.length cg) := (blk_cell hbq 2).trans rfl; have e3 : w2.cell? ⟨w.heap.size, 3, none⟩ = some (.slice Af m.firing.length cf) := (blk_cell hbq 3).trans rfl; have e4 : w2.cell? ⟨w.heap.size, 4, none⟩ = some (.slice Ar m.resolved.length cr) := (blk_cell hbq 4).trans rfl; clear hbq) | (go_at_call 17; (refine (HCk.out w2 (HB1.out.trans (hb2.mono HB1.out.size))).mono ?_); rintro e w3 ⟨rfl, hb3⟩))
        all_goals
          go_meet
          case rel => exact ⟨_, rfl, (by first | exact hb2.trans (hb3.mono hb2.size) | exact hb2), (by first | exact fun h => Bool.noConfusion h | exact fun _ => ⟨HCm.out, by omega⟩)⟩
      · have h4i : ¬ (4096 : Int) < (t.length : Int) := by omega
        go_wp2_with (first | (go_at_call 16; (refine (HLi.out W1 HB1.out).mono ?_); rintro e w2 ⟨b, rfl, hb2⟩; have hbq := blk_below HBx.out hb2; have e0 : w2.cell? ⟨w.heap.size, 0, none⟩ = some (.string (str m.recv)) := (blk_cell hbq 0).trans rfl; have e1 : w2.cell? ⟨w.heap.size, 1, none⟩ = some (.string (str m.key)) := (blk_cell hbq 1).trans rfl; have e2 : w2.cell? ⟨w.heap.size, 2, none⟩ = some (.slice Ag m.group.length cg) := (blk_cell hbq 2).trans rfl; have e3 : w2.cell? ⟨w.heap.size, 3, none⟩ = some (.slice Af m.firing.length cf) := (blk_cell hbq 3).trans rfl; have e4 : w2.cell? ⟨w.heap.size, 4, none⟩ = some (.slice Ar m.resolved.length cr) := (blk_cell hbq 4).trans rfl; clear hbq) | (go_at_call 17; (refine (HCk.out w2 (HB1.out.trans (hb2.mono HB1.out.size))).mono ?_); rintro e w3 ⟨rfl, hb3⟩))
        all_goals
          go_meet
          case rel => exact ⟨_, rfl, (by first | exact hb2.trans (hb3.mono hb2.size) | exact hb2), (by first | exact fun h => Bool.noConfusion h | exact fun _ => ⟨HCm.out, by omega⟩)⟩
    · have hc1 : (cm != 0) = true := by rw [bne_iff_ne]; exact hc0
      go_wp2_with (first | (go_at_call 16; (refine (HLi.out W1 HB1.out).mono ?_); rintro e w2 ⟨b, rfl, hb2⟩; have hbq := blk_below HBx.out hb2; have e0 : w2.cell? ⟨w.heap.size, 0, none⟩ = some (.string (str m.recv)) := (blk_cell hbq 0).trans rfl; have e1 : w2.cell? ⟨w.heap.size, 1, none⟩ = some (.string (str m.key)) := (blk_cell hbq 1).trans rfl; have e2 : w2.cell? ⟨w.heap.size, 2, none⟩ = some (.slice Ag m.group.length cg) := (blk_cell hbq 2).trans rfl; have e3 : w2.cell? ⟨w.heap.size, 3, none⟩ = some (.slice Af m.firing.length cf) := (blk_cell hbq 3).trans rfl; have e4 : w2.cell? ⟨w.heap.size, 4, none⟩ = some (.slice Ar m.resolved.length cr) := (blk_cell hbq 4).trans rfl; clear hbq) | (go_at_call 17; (refine (HCk.out w2 (HB1.out.trans (hb2.mono HB1.out.size))).mono ?_); rintro e w3 ⟨rfl, hb3⟩))
      all_goals
        go_meet
        case rel => exact ⟨_, rfl, (by first | exact hb2.trans (hb3.mono hb2.size) | exact hb2), (by first | exact fun h => Bool.noConfusion h | exact fun _ => ⟨HCm.out, by omega⟩)⟩
  case rest =>
    obtain ⟨B, rfl, hbg, hg0⟩ := hcut
    generalize wc = W2 at hbg ⊢
    have hbw := HB1.out.trans (hbg.mono HB1.out.size)
    have HA2 := Lib.hid (HAw.out W2 hbw)
    have HBw := Lib.hid hbw
    have hbq := blk_below HBx.out hbg
    have HBq := Lib.hid hbq
    clear hbg hbw hbq
    cases B
    · obtain ⟨hc0, h4⟩ := hg0 rfl
      clear hg0
      go_wp2_with fail
      go_loopw [5] (fun v wr => PlRel2 W2 t v wr) (fun v _ => t.length - (intOf v).toNat)
      case atStart => exact ⟨1, rfl, Nat.le_refl _, Or.inr rfl, fun j h h1 => by omega, Below.refl _ _⟩
      case round =>
        obtain ⟨i, rfl, hi1, hi2, hno, hbr⟩ := hrel
        have HR := Lib.hid hbr
        have yq := blk_below HBq.out hbr
        have HY := Lib.hid yq
        have f0 : wr.cell? ⟨w.heap.size, 0, none⟩ = some (.string (str m.recv)) := (blk_cell yq 0).trans rfl
        have f1 : wr.cell? ⟨w.heap.size, 1, none⟩ = some (.string (str m.key)) := (blk_cell yq 1).trans rfl
        have f2 : wr.cell? ⟨w.heap.size, 2, none⟩ = some (.slice Ag m.group.length cg) := (blk_cell yq 2).trans rfl
        have f3 : wr.cell? ⟨w.heap.size, 3, none⟩ = some (.slice Af m.firing.length cf) := (blk_cell yq 3).trans rfl
        have f4 : wr.cell? ⟨w.heap.size, 4, none⟩ = some (.slice Ar m.resolved.length cr) := (blk_cell yq 4).trans rfl
        clear hbr yq
        by_cases hit : i < t.length
        · have hii : (i : Int) < (t.length : Int) := by omega
          have hi1i : (1 : Int) ≤ (i : Int) := by omega
          have hw0 : IntKind.i64.wrap ((i : Int) - 1) = ((i - 1 : Nat) : Int) := by rw [IntKind.wrap_i64]; omega
          have hw1 : IntKind.i64.wrap ((i : Int) + 1) = ((i + 1 : Nat) : Int) := by rw [IntKind.wrap_i64]; omega
          have hl1 : ((i - 1 : Nat) : Int) < (t.length : Int) := by omega
          have hl0 : (0 : Int) ≤ ((i - 1 : Nat) : Int) := by omega
          have HA3 := Lib.hid (HAw.out wr (HBw.out.trans (HR.out.mono HBw.out.size)))
          go_wp2_with (first | (go_at_call 13; (refine HA3.out.mono ?_); rintro e w8 ⟨rfl, hb8⟩))
          · go_ret
            exact ⟨rfl, HBw.out.trans ((HR.out.trans (hb8.mono HR.out.size)).mono HBw.out.size)⟩
          · rename_i ha hb
            refine ⟨⟨i + 1, rfl, by omega, by omega, noTwo_step hno hi1 hit (fun h => by simp only [beq_eq_false_iff_ne] at hb; exact hb h.2), HR.out⟩, ?_⟩
            simp [intOf]; omega
          · rename_i ha
            refine ⟨⟨i + 1, rfl, by omega, by omega, noTwo_step hno hi1 hit (fun h => ha h.1), HR.out⟩, ?_⟩
            simp [intOf]; omega
        · have hii : ¬ (i : Int) < (t.length : Int) := by omega
          have hbr := HBw.out.trans (HR.out.mono HBw.out.size)
          have hall : noTwo t t.length := fun j h h1 he => by
            rcases hi2 with h2 | h2
            · exact hno j h (by omega) he
            · omega
          have HRe := Lib.hid (Render_any (hT.below hbr) (HM.out.below hbr) t h4 (plain_parse h4 hall) hc0 (plain_good m) (by rw [plain_rend]; omega) (by split <;> simp))
          rw [plain_rend] at HRe
          have HA3 := Lib.hid (fun (w9 : World) (hb : Below wr.heap.size wr w9) => HAw.out w9 (hbr.trans (hb.mono hbr.size)))
          have HBr := Lib.hid hbr
          clear hbr
          go_wp2_with (first | (go_at_call 18; (refine HRe.out.mono ?_); rintro e w7 ⟨rfl, hb7⟩) | (go_at_call 13; (refine (HA3.out w7 hb7).mono ?_); rintro e w8 ⟨rfl, hb8⟩))
          go_ret
          have hb78 := HBr.out.trans ((hb7.trans (hb8.mono hb7.size)).mono HBr.out.size)
          exact ⟨rfl, hb78⟩
    · go_wp2_with (first | (go_at_call 13; (refine HA2.out.mono ?_); rintro e w8 ⟨rfl, hb8⟩))
      go_ret
      exact ⟨rfl, HBw.out.trans (hb8.mono HBw.out.size)⟩
theorem templatePlain_holds0 {w : World} (hT : Tabs w) (s : ByteArray) (_ : s.size ≤ maxLen) (m : MsgM) (pre : List Value) (hM : MsgC w m pre) : Calls Tryz.prog 4 #[.string s, .agg pre.toArray] w fun e w' => e = .returned (.bool true) ∧ Below w.heap.size w w' := by
  have := templatePlain_b hT (bts s) m pre hM
  rwa [str_bts] at this
end Go.Proofs.YtllhpkpckjacfaaGreatDoor
