/- PayloadValues, walked. -/
import Derived.Test.YtllhpkpckjacfaaGreatDoorPm5
namespace Go.Proofs.YtllhpkpckjacfaaGreatDoor
open Go.RowKit Go.Proofs.YtllhpkpckjacfaaGreatDoorW.PrintWords PTemplateFilters
set_option linter.unusedVariables false
set_option linter.unusedSimpArgs false

def toV (v : Vl) : S74 := ⟨v.par, v.kind, v.name, v.text⟩
theorem vcells_at : ∀ (l : List Vl) (j : Nat) (p : S74), (l.map toV)[j]? = some p → ((vcells l).drop (j * 4)).take 4 = [.int .i64 p.f0, .int .u8 p.f1, .string p.f2, .string p.f3]
  | [], j, p, h => by simp at h
  | v :: l, 0, p, h => by
    simp at h
    subst h
    rfl
  | v :: l, j + 1, p, h => by
    have := vcells_at l j p (by simpa using h)
    rw [show vcells (v :: l) = v.cells ++ vcells l from rfl, show (j + 1) * 4 = 4 + j * 4 by omega, ← List.drop_drop, show (v.cells ++ vcells l).drop 4 = vcells l from rfl]
    exact this
theorem own_C {w : World} {B : Nat} {V : Value} {l : List Vl} (h : Own w B V l) : ∃ A c, V = .slice A (l.map toV).length c ∧ (l.map toV).length ≤ c ∧ Kd.C k74 w A (l.map toV).length (l.map toV) := by
  have hR : Kd.R k74 74 w B (fun _ => True) V (l.map toV) := by
    refine ⟨fun _ _ => trivial, vcells l, ?_, ?_⟩
    · unfold Own at h
      rw [List.length_map]
      exact h
    · refine ⟨by rw [vcells_len, List.length_map]; rfl, fun j p hp => ?_⟩
      have := vcells_at l j p hp
      show k74.M _ _ _ p (((vcells l).drop (j * 4)).take 4)
      rw [this]
      exact k74_mkM _ _ _ p
  exact Kd.R_reads hR
theorem same_l0 (x : List S74) (hx : x.length ≤ 1000000) : ∀ m i : Nat, i + m = x.length → watchfireref24_Same.l0 (m + 1) x x (i : Int) = some true
  | 0, i, h => by
    rw [watchfireref24_Same.l0, if_neg (by omega)]
  | m + 1, i, h => by
    have hw : wrap64 ((i : Int) + 1) = ((i + 1 : Nat) : Int) := by rw [w64_in _ (by omega)]; simp
    rw [watchfireref24_Same.l0, if_pos (by omega), if_pos (by omega), if_pos (by omega), hw, if_neg (by simp)]
    exact same_l0 x hx m (i + 1) (by omega)
theorem same_any {w : World} {B1 B2 : Nat} {V1 V2 : Value} {l : List Vl} (h1 : Own w B1 V1 l) (h2 : Own w B2 V2 l) (hl : l.length ≤ 1000000) : Calls Tryz.prog 21 #[V1, V2] w fun e w' => e = .returned (.bool true) ∧ Drawn0 w w' := by
  obtain ⟨A1, c1, rfl, hc1, hC1⟩ := own_C h1
  obtain ⟨A2, c2, rfl, hc2, hC2⟩ := own_C h2
  refine watchfireref24_Same.calls (l.length + 1) A1 c1 (l.map toV) A2 c2 (l.map toV) true w hC1 hc1 hC2 hc2 ?_
  unfold watchfireref24_Same.f
  rw [if_pos rfl]
  have := same_l0 (l.map toV) (by simpa using hl) l.length 0 (by simp)
  exact this
set_option maxRecDepth 100000 in
set_option maxHeartbeats 4000000 in
theorem values_holds1 {w : World} (hT : Tabs w) {m : MsgM} {pre : List Value} (hM : MsgC w m pre) (t : Bytes) : Calls Tryz.prog 8 #[.agg pre.toArray, .string (str t)] w fun e w' => e = .returned (.bool true) ∧ Below w.heap.size w w' := by
  have hM2 := hM
  obtain ⟨Vg, Vf, Vr, rfl, hg, hf, hr⟩ := hM
  obtain ⟨Ag, cg, rfl, hcg, hCg⟩ := hg
  obtain ⟨Af, cf, rfl, hcf⟩ := hf.form
  obtain ⟨Ar, cr, rfl, hcr⟩ := hr.form
  have hb1 : Below w.heap.size w (w.alloc (.cells #[.string (str m.recv), .string (str m.key), .slice Ag m.group.length cg, .slice Af m.firing.length cf, .slice Ar m.resolved.length cr] 33)) := below_alloc (Below.refl _ _) _
  have hbx : (w.alloc (.cells #[.string (str m.recv), .string (str m.key), .slice Ag m.group.length cg, .slice Af m.firing.length cf, .slice Ar m.resolved.length cr] 33)).heap[w.heap.size]? = some (.cells #[.string (str m.recv), .string (str m.key), .slice Ag m.group.length cg, .slice Af m.firing.length cf, .slice Ar m.resolved.length cr] 33 (0, 0)) := heap_alloc_new w _
  have hz : (w.alloc (.cells #[.string (str m.recv), .string (str m.key), .slice Ag m.group.length cg, .slice Af m.firing.length cf, .slice Ar m.resolved.length cr] 33)).heap.size = w.heap.size + 1 := by simp
  have hzt := str_size t
  have HAw : Hid (∀ w1, Below w.heap.size w w1 → Calls Tryz.prog 20 #[] w1 fun e w' => e = .returned (.bool true) ∧ Below w1.heap.size w1 w') := Lib.hid (fun w1 hb => awake29_any (hT.below hb))
  have HM := Lib.hid (fun w1 (hb : Below w.heap.size w w1) => hM2.below hb)
  have HB1 := Lib.hid hb1
  have HBx := Lib.hid hbx
  have HZ := Lib.hid hz
  clear hCg hf hr hb1 hbx hM2 hz
  obtain ⟨T, hTT⟩ : ∃ T, str t = T := ⟨_, rfl⟩
  rw [hTT] at hzt ⊢
  clear hTT
  go_enter Tryz.func8, Tryz.ntmps8
  go_upto_region 1 with (fail)
  generalize hW1 : w.alloc _ = W1 at HB1 HBx HZ ⊢
  obtain ⟨b, hb⟩ : ∃ b, w.heap.size = b := ⟨_, rfl⟩
  have HBb := Lib.hid hb
  have hbw : b < W1.heap.size := by rw [← hb, HZ.out]; omega
  rw [hb] at HBx ⊢
  clear hW1 hb
  by_cases h3 : 2000 < t.length
  · have h3i : decide ((2000 : Int) < (t.length : Int)) = true := decide_eq_true (by omega)
    have HA := Lib.hid (HAw.out W1 HB1.out)
    go_wp2_with (first | (go_at_call 20; (refine HA.out.mono ?_); rintro e w2 ⟨rfl, hb2⟩))
    go_ret
    exact ⟨rfl, HB1.out.trans (hb2.mono HB1.out.size)⟩
  have h3i : decide ((2000 : Int) < (t.length : Int)) = false := decide_eq_false (by omega)
  have hcell : ∀ w2 : World, Below W1.heap.size W1 w2 → w2.cell? ⟨b, 0, none⟩ = some (.string (str m.recv)) ∧ w2.cell? ⟨b, 1, none⟩ = some (.string (str m.key)) ∧ w2.cell? ⟨b, 2, none⟩ = some (.slice Ag m.group.length cg) ∧ w2.cell? ⟨b, 3, none⟩ = some (.slice Af m.firing.length cf) ∧ w2.cell? ⟨b, 4, none⟩ = some (.slice Ar m.resolved.length cr) := fun w2 h =>
    ⟨(blk_cell (blk_below HBx.out h) 0).trans rfl, (blk_cell (blk_below HBx.out h) 1).trans rfl, (blk_cell (blk_below HBx.out h) 2).trans rfl, (blk_cell (blk_below HBx.out h) 3).trans rfl, (blk_cell (blk_below HBx.out h) 4).trans rfl⟩
  have HCell := Lib.hid hcell
  obtain ⟨d0, d1, d2, d3, d4⟩ := hcell W1 (Below.refl _ _)
  clear hcell
  have HLi := Lib.hid (lightv_any (HM.out W1 HB1.out))
  go_wp2_with fail
  refine HLi.out.mono ?_
  rintro e w2 ⟨lb, rfl, hlb, hb2⟩
  have HLb := Lib.hid hlb
  have HB2 := Lib.hid hb2
  clear hlb hb2 d0 d1 d2 d3 d4
  cases lb with
  | false =>
    have HA := Lib.hid (HAw.out w2 (HB1.out.trans (HB2.out.mono HB1.out.size)))
    go_wp2_with (first | (go_at_call 20; (refine HA.out.mono ?_); rintro e w3 ⟨rfl, hb3⟩))
    go_ret
    exact ⟨rfl, (HB1.out.trans (HB2.out.mono HB1.out.size)).trans (hb3.mono (HB1.out.trans (HB2.out.mono HB1.out.size)).size)⟩
  | true =>
    have hlv := HLb.out rfl
    have hsv : SmallV m := ⟨hlv.fir, hlv.res, hlv.grp, hlv.firs, hlv.ress⟩
    have hvl : (valuesV m T).length ≤ 1000000 := by have := hsv.v4; unfold valuesV; rw [List.length_append]; simp only [List.length_cons, List.length_nil]; omega
    have HSv := Lib.hid (And.intro hsv hvl)
    clear hlv hsv hvl HLb HLi
    obtain ⟨d0, d1, d2, d3, d4⟩ := HCell.out w2 HB2.out
    go_upto_region 3 with fail
    refine wp_region_held_drew (S := fun wv : World => wv.cell? ⟨b, 0, none⟩ = some (.string (str m.recv)) ∧ wv.cell? ⟨b, 1, none⟩ = some (.string (str m.key)) ∧ wv.cell? ⟨b, 2, none⟩ = some (.slice Ag m.group.length cg) ∧ wv.cell? ⟨b, 3, none⟩ = some (.slice Af m.firing.length cf) ∧ wv.cell? ⟨b, 4, none⟩ = some (.slice Ar m.resolved.length cr)) (by kernel_rfl) ⟨d0, d1, d2, d3, d4⟩ (fun hHeld => ?_)
    have HB3 := Lib.hid (below_drew HB2.out)
    clear d0 d1 d2 d3 d4
    generalize w2.drew = w3 at HB3 hHeld ⊢
    have HMs := Lib.hid (fun (wx : World) (h : Below W1.heap.size W1 wx) => HM.out wx (HB1.out.trans (h.mono HB1.out.size)))
    have C1 := Lib.hid (Values_any (HMs.out w3 HB3.out) HSv.out.1 T)
    refine wpAnyH_take (i := 0) (oi := _) (v := ?_) rfl (by kernel_rfl) (by kernel_rfl) (by kernel_rfl) (fun _ _ _ h => h) (Or.inl ⟨by rfl, ?_⟩) (by assumption) ?_
    rotate_left 1
    · intro w hSw; (try dsimp only at hSw); go_simp; (try with_reducible rfl)
    try simp only [Act.put, List.setIfInBounds_toArray, List.set_cons_zero, List.set_cons_succ, List.getElem_toArray, List.getElem_cons_zero, List.getElem_cons_succ]
    refine wpAnyH_take (i := 1) (oi := _) (v := ?_) rfl (by kernel_rfl) (by kernel_rfl) (by kernel_rfl) (fun _ _ _ h => h) (Or.inl ⟨by rfl, ?_⟩) (by assumption) ?_
    rotate_left 1
    · intro w hSw; (try dsimp only at hSw); go_simp; (try with_reducible rfl)
    try simp only [Act.put, List.setIfInBounds_toArray, List.set_cons_zero, List.set_cons_succ, List.getElem_toArray, List.getElem_cons_zero, List.getElem_cons_succ]
    refine wpAnyH_take (i := 3) (oi := _) (v := ?_) rfl (by kernel_rfl) (by kernel_rfl) (by kernel_rfl) (fun _ _ _ h => h) (Or.inl ⟨by rfl, ?_⟩) (by assumption) ?_
    rotate_left 1
    · intro w hSw; (try dsimp only at hSw); go_simp; (try with_reducible rfl)
    try simp only [Act.put, List.setIfInBounds_toArray, List.set_cons_zero, List.set_cons_succ, List.getElem_toArray, List.getElem_cons_zero, List.getElem_cons_succ]
    refine wpAnyH_take (i := 4) (oi := _) (v := ?_) rfl (by kernel_rfl) (by kernel_rfl) (by kernel_rfl) (fun _ _ _ h => h) (Or.inl ⟨by rfl, ?_⟩) (by assumption) ?_
    rotate_left 1
    · intro w hSw; (try dsimp only at hSw); go_simp; (try with_reducible rfl)
    try simp only [Act.put, List.setIfInBounds_toArray, List.set_cons_zero, List.set_cons_succ, List.getElem_toArray, List.getElem_cons_zero, List.getElem_cons_succ]
    refine wpAnyH_ready (rs := [2]) (by kernel_rfl) (by simp) ?_
    refine AllReadyH.cons (o := _) rfl (fun K hK => ?_) AllReadyH.nil
    go_simp
    refine C1.out.mono ?_
    rintro e w4 ⟨V1, rfl, ho1, hb4⟩
    have HB4 := Lib.hid (HB3.out.trans (hb4.mono HB3.out.size))
    have HO1 := Lib.hid ho1
    clear ho1 hb4
    refine hK.out _ _ (HCell.out w4 HB4.out) (fun hHeld => ?_)
    clear hK K
    have C2 := Lib.hid (Valuesr_any (HMs.out w4 HB4.out) HSv.out.1 T)
    refine wpAnyH_ready (rs := [5]) (by kernel_rfl) (by simp) ?_
    refine AllReadyH.cons (o := _) rfl (fun K hK => ?_) AllReadyH.nil
    go_simp
    refine C2.out.mono ?_
    rintro e w5 ⟨V2, rfl, ho2, hb5⟩
    have HB5 := Lib.hid (HB4.out.trans (hb5.mono HB4.out.size))
    have C3 := Lib.hid (same_any (pw_own_below HO1.out hb5) ho2 HSv.out.2)
    clear ho2 hb5
    refine hK.out _ _ (HCell.out w5 HB5.out) (fun hHeld => ?_)
    clear hK K
    refine wpAnyH_ready (rs := [6]) (by kernel_rfl) (by simp) ?_
    refine AllReadyH.cons (o := _) rfl (fun K hK => ?_) AllReadyH.nil
    go_simp
    refine C3.out.mono ?_
    rintro e w6 ⟨rfl, hd6⟩
    have HB6 := Lib.hid (HB5.out.trans (hd6.below.mono HB5.out.size))
    have HA := Lib.hid (HAw.out w6 (HB1.out.trans (HB6.out.mono HB1.out.size)))
    clear hd6
    refine hK.out _ _ (HCell.out w6 HB6.out) (fun hHeld => ?_)
    clear hK K
    refine wpAnyH_take (i := 7) (oi := _) (v := ?_) rfl (by kernel_rfl) (by kernel_rfl) (by kernel_rfl) (fun _ _ _ h => h) (Or.inl ⟨by rfl, ?_⟩) (by assumption) ?_
    rotate_left 1
    · intro w hSw; (try dsimp only at hSw); go_simp; (try with_reducible rfl)
    try simp only [Act.put, List.setIfInBounds_toArray, List.set_cons_zero, List.set_cons_succ, List.getElem_toArray, List.getElem_cons_zero, List.getElem_cons_succ]
    refine wpAnyH_ready (rs := [8]) (by kernel_rfl) (by simp) ?_
    refine AllReadyH.cons (o := _) rfl (fun K hK => ?_) AllReadyH.nil
    go_simp
    refine HA.out.mono ?_
    rintro e w7 ⟨rfl, hb7⟩
    have HB7 := Lib.hid (HB6.out.trans (hb7.mono HB6.out.size))
    clear hb7
    refine hK.out _ _ (HCell.out w7 HB7.out) (fun hHeld => ?_)
    clear hK K
    refine wpAnyH_take (i := 9) (oi := _) (v := ?_) rfl (by kernel_rfl) (by kernel_rfl) (by kernel_rfl) (fun _ _ _ h => h) (Or.inl ⟨by rfl, ?_⟩) (by assumption) ?_
    rotate_left 1
    · intro w hSw; (try dsimp only at hSw); go_simp; (try with_reducible rfl)
    try simp only [Act.put, List.setIfInBounds_toArray, List.set_cons_zero, List.set_cons_succ, List.getElem_toArray, List.getElem_cons_zero, List.getElem_cons_succ]
    refine wpAnyH_take (i := 10) (oi := _) (v := ?_) rfl (by kernel_rfl) (by kernel_rfl) (by kernel_rfl) (fun _ _ _ h => h) (Or.inl ⟨by rfl, ?_⟩) (by assumption) ?_
    rotate_left 1
    · intro w hSw; (try dsimp only at hSw); go_simp; (try with_reducible rfl)
    try simp only [Act.put, List.setIfInBounds_toArray, List.set_cons_zero, List.set_cons_succ, List.getElem_toArray, List.getElem_cons_zero, List.getElem_cons_succ]
    refine wpAnyH_done (by kernel_rfl) ?_ _
    go_simp
    go_wp2
    go_ret
    exact ⟨rfl, HB1.out.trans (HB7.out.mono HB1.out.size)⟩
theorem payloadValues_holds0 {w : World} (hT : Tabs w) (m : MsgM) (pre : List Value) (hM : MsgC w m pre) (s : ByteArray) (_ : s.size ≤ maxLen) :
    Calls Tryz.prog 8 #[.agg pre.toArray, .string s] w fun e w' => e = .returned (.bool true) ∧ Below w.heap.size w w' := by
  have h := values_holds1 hT hM (bts s)
  rw [str_bts] at h
  exact h
end Go.Proofs.YtllhpkpckjacfaaGreatDoor
