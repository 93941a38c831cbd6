/- template.Render. -/
import Derived.Test.YtllhpkpckjacfaaGreatDoorTrE
namespace Go.Proofs.YtllhpkpckjacfaaGreatDoor
open Go.RowKit Go.Proofs.YtllhpkpckjacfaaGreatDoorW.PrintWords PTemplateFilters
set_option linter.unusedVariables false
set_option linter.unusedSimpArgs false

set_option maxHeartbeats 2000000 in
set_option maxRecDepth 100000 in
theorem string_w0 {w : World} {b o B T m : Nat} {pre rest : List Value} (H : HeadB T o m) (hm : pre.length + (rest.length + 2) = m) (h : Wb w b o B T pre rest []) (hB : B ≤ w.heap.size) :
    Calls Tryz.prog 58 #[.pointer (some ⟨b, o, none⟩)] w fun e w' => e = .returned (.string (str [])) ∧ Below B w w' := by
  have hbl := h.lt
  obtain ⟨p, v, hp, U⟩ := h
  have c1 : w.cell? ⟨b, o + 1, none⟩ = some v := (cells_of U.row (o + 1)).1.trans (by rw [← U.at']; exact row_get1)
  have hUS : ∀ (q : Option Addr) (w1 : World), (Builtin.unsafeString_ #[120, 3] 9 #[.pointer q, .int .i64 0]).run Tryz.prog w1 = .ok (.string (str [])) w1 := fun q w1 => Lib.run_unsafeString_none _ _ _ _ _
  rcases U.own.2 with ⟨rfl, _⟩ | ⟨g, cap, cur, fz, rfl, hbg, hg, hfz, hnc, hcm, hcs, htake⟩
  · have hSD : ∀ w1 : World, (Builtin.unsafeSliceData_ #[84] 120 #[.slice none 0 0]).run Tryz.prog w1 = .ok (.pointer none) w1 := fun w1 => Lib.run_unsafeSliceData_nil _ _ _ _ _
    clear U hp
    go_enter Tryz.func58, Tryz.ntmps58
    go_wp2
    go_region
    all_goals
      go_wp2
      go_ret
      exact ⟨rfl, by first | exact Below.refl _ _ | exact (Below.refl _ _).drew⟩
  · by_cases hc0 : cap = 0
    · subst hc0
      have c1' : w.cell? ⟨b, o + 1, none⟩ = some (.slice (some ⟨g, 0, none⟩) 0 0) := c1
      have hSD : (Builtin.unsafeSliceData_ #[84] 120 #[.slice (some ⟨g, 0, none⟩) 0 0]).run Tryz.prog w.drew = .ok (.pointer (some ⟨w.drew.heap.size, 0, none⟩)) (w.drew.alloc (.view ⟨g, 0, none⟩ 5)) :=
        Lib.run_unsafeSliceData_zero _ _ _ _ Tryz.underlying120 _ _ (5, cur.size) (by have hg' : w.drew.heap[g]? = some (.cells cur 5 fz) := hg; simp [World.shape?, hg'])
      have c2 : (w.drew.alloc (.view ⟨g, 0, none⟩ 5)).cell? ⟨b, o + 1, none⟩ = some (.slice (some ⟨g, 0, none⟩) 0 0) := cell_alloc c1' _
      clear U hp c1 hfz hnc hcm hcs htake hg
      go_enter Tryz.func58, Tryz.ntmps58
      go_wp2
      go_region
      all_goals
        go_wp2
        go_ret
        exact ⟨rfl, (Below.refl B w).drew.alloc hB _⟩
    · have hSD : ∀ w1 : World, (Builtin.unsafeSliceData_ #[84] 120 #[.slice (some ⟨g, 0, none⟩) 0 cap]).run Tryz.prog w1 = .ok (.pointer (some ⟨g, 0, none⟩)) w1 := fun w1 => Lib.run_unsafeSliceData_row _ _ _ _ _ _ hc0
      have c1' : w.cell? ⟨b, o + 1, none⟩ = some (.slice (some ⟨g, 0, none⟩) 0 cap) := c1
      clear U hp c1 hfz hnc hcm hcs htake hg
      go_enter Tryz.func58, Tryz.ntmps58
      go_wp2
      go_region
      all_goals
        go_wp2
        go_ret
        exact ⟨rfl, by first | exact Below.refl _ _ | exact (Below.refl _ _).drew⟩
theorem MsgC.below {w w' : World} {m : MsgM} {pre : List Value} (h : MsgC w m pre) (hb : Below w.heap.size w w') : MsgC w' m pre := by
  obtain ⟨Vg, Vf, Vr, e, hg, hf, hr⟩ := h
  exact ⟨Vg, Vf, Vr, e, hg.below hb, ListsC.below hf hb, ListsC.below hr hb⟩
theorem RunK.new (w2 : World) {pre : List Value} (hpre : pre.length = 5) : RunK w2 (w2.alloc (.cells (pre ++ [Value.pointer none, Value.slice none 0 0, Value.slice none 0 0, Value.int .i64 0]).toArray 115)) w2.heap.size pre [] [] :=
  ⟨⟨.slice none 0 0, 0, PairsC.nil _, .pointer none, .slice none 0 0, Or.inl rfl, Nat.le_refl _, hpre, heap_alloc_new w2 _, ⟨rfl, Or.inl ⟨rfl, rfl⟩⟩, by simp [Value.ownBlock]⟩, below_alloc (Below.refl _ _) _⟩
theorem string_run {w0 w : World} {b : Nat} {pre : List Value} {al : List S40} {l : Bytes} (h : RunK w0 w b pre al l) (hpre : pre.length = 5) :
    Calls Tryz.prog 58 #[.pointer (some ⟨b, 5, none⟩)] w fun e w' => e = .returned (.string (str l)) ∧ Below w0.heap.size w w' := by
  obtain ⟨Va, idx, hA, hW⟩ := h.wb
  by_cases hl : l = []
  · subst hl
    exact string_w0 headB115 (by simp [hpre]) hW h.bel.size
  · exact string_w headB115 (by simp [hpre]) hW hl
set_option maxRecDepth 100000 in
set_option maxHeartbeats 800000 in
theorem render_any {w : World} (hT : Tabs w) {m : MsgM} {pre : List Value} (hM : MsgC w m pre) {h d : Nat} {V : Value} {ns : List Nd} (hb : w.heap[h]? = some (.cells #[V] 110 (0, 0))) (hN : NdsK (fun _ => True) w d V ns) (hc : chkM m = 0) (hg : ∀ x ∈ ns, goodM m d [] x) (hl : (rendsM m d [] ns).length ≤ 65536) (hn : ns.length ≤ 1000000) :
    Calls Tryz.prog 46 #[.pointer (some ⟨h, 0, none⟩), .agg pre.toArray] w fun e w' => e = .returned (.tuple #[.string (str (rendsM m d [] ns)), .int .i64 0]) ∧ Below w.heap.size w w' := by
  obtain ⟨Vg, Vf, Vr, rfl, hVg, hVf, hVr⟩ := hM
  obtain ⟨Ag, cg, rfl, hcg, hCg⟩ := hVg
  obtain ⟨Af, cf, rfl, hcf⟩ := hVf.form
  obtain ⟨Ar, cr, rfl, hcr⟩ := hVr.form
  obtain ⟨A, c, rfl, hcA⟩ := hN.form
  have hM2 : MsgC w m [.string (str m.recv), .string (str m.key), .slice Ag m.group.length cg, .slice Af m.firing.length cf, .slice Ar m.resolved.length cr] := ⟨_, _, _, rfl, ⟨Ag, cg, rfl, hcg, hCg⟩, hVf, hVr⟩
  have hb1 : Below w.heap.size w (w.alloc (.cells #[.string (str m.recv), .string (str m.key), .slice Ag m.group.length cg, .slice Af m.firing.length cf, .slice Ar m.resolved.length cr] 33)) := below_alloc (Below.refl _ _) _
  have hck := tcheck_any (hM2.below hb1)
  rw [hc] at hck
  have hbx : (w.alloc (.cells #[.string (str m.recv), .string (str m.key), .slice Ag m.group.length cg, .slice Af m.firing.length cf, .slice Ar m.resolved.length cr] 33)).heap[w.heap.size]? = some (.cells #[.string (str m.recv), .string (str m.key), .slice Ag m.group.length cg, .slice Af m.firing.length cf, .slice Ar m.resolved.length cr] 33 (0, 0)) := heap_alloc_new w _
  have d0 := (blk_cell hbx 0).trans rfl
  have HCk := Lib.hid hck
  have HM := Lib.hid hM2
  have HB1 := Lib.hid hb1
  have HBx := Lib.hid hbx
  have HBh := Lib.hid hb
  have HN := Lib.hid hN
  have HG := Lib.hid hg
  have HL := Lib.hid hl
  clear hck hM2 hb1 hbx hb hN hg hl hCg hVf hVr d0
  go_enter Tryz.func46, Tryz.ntmps46
  go_upto_region 3 with (fail)
  generalize hW1 : w.alloc _ = W1 at HB1 HBx HCk ⊢
  have d0 : W1.cell? ⟨w.heap.size, 0, none⟩ = some (.string (str m.recv)) := (blk_cell HBx.out 0).trans rfl
  have d1 : W1.cell? ⟨w.heap.size, 1, none⟩ = some (.string (str m.key)) := (blk_cell HBx.out 1).trans rfl
  have d2 : W1.cell? ⟨w.heap.size, 2, none⟩ = some (.slice Ag m.group.length cg) := (blk_cell HBx.out 2).trans rfl
  have d3 : W1.cell? ⟨w.heap.size, 3, none⟩ = some (.slice Af m.firing.length cf) := (blk_cell HBx.out 3).trans rfl
  have d4 : W1.cell? ⟨w.heap.size, 4, none⟩ = some (.slice Ar m.resolved.length cr) := (blk_cell HBx.out 4).trans rfl
  clear hW1
  go_upto_region 6 with (first | (go_at_call 17; (refine HCk.out.mono ?_); rintro e w2 ⟨rfl, hb2⟩))
  have hbq := blk_below HBx.out hb2
  have e0 : w2.cell? ⟨w.heap.size, 0, none⟩ = some (.string (str m.recv)) := (blk_cell hbq 0).trans rfl
  have e1 : w2.cell? ⟨w.heap.size, 1, none⟩ = some (.string (str m.key)) := (blk_cell hbq 1).trans rfl
  have e2 : w2.cell? ⟨w.heap.size, 2, none⟩ = some (.slice Ag m.group.length cg) := (blk_cell hbq 2).trans rfl
  have e3 : w2.cell? ⟨w.heap.size, 3, none⟩ = some (.slice Af m.firing.length cf) := (blk_cell hbq 3).trans rfl
  have e4 : w2.cell? ⟨w.heap.size, 4, none⟩ = some (.slice Ar m.resolved.length cr) := (blk_cell hbq 4).trans rfl
  have hbw := HB1.out.trans (hb2.mono HB1.out.size)
  have HBw := Lib.hid hbw
  clear hb2 hbq d0 d1 d2 d3 d4 hbw
  go_upto_region 7 with (fail)
  have hR := RunK.new w2 (pre := [.string (str m.recv), .string (str m.key), .slice Ag m.group.length cg, .slice Af m.firing.length cf, .slice Ar m.resolved.length cr]) rfl
  have hb3 : Below w2.heap.size w2 (w2.alloc (.cells #[.string (str m.recv), .string (str m.key), .slice Ag m.group.length cg, .slice Af m.firing.length cf, .slice Ar m.resolved.length cr, .pointer none, .slice none 0 0, .slice none 0 0, .int .i64 0] 115)) := below_alloc (Below.refl _ _) _
  have hM3 := HM.out.below HBw.out
  have hN3 := NdsK.move HN.out (same_below HBw.out (Nat.le_refl _))
  have hT3 := hT.below HBw.out
  have hrn := rend_ind hT3 (b := w2.heap.size) hM3 d _ [] [] (.slice A ns.length c) ns hR hN3 HG.out HL.out hn
  rw [List.nil_append] at hrn
  have hh : (w2.alloc (.cells #[.string (str m.recv), .string (str m.key), .slice Ag m.group.length cg, .slice Af m.firing.length cf, .slice Ar m.resolved.length cr, .pointer none, .slice none 0 0, .slice none 0 0, .int .i64 0] 115)).cell? ⟨h, 0, none⟩ = some (.slice A ns.length c) := pw_cell_below hb3 (pw_cell_below HBw.out ((blk_cell HBh.out 0).trans rfl))
  have HRn := Lib.hid hrn
  clear hR hM3 hN3 hT3 hrn hb3 e0 e1 e2 e3 e4
  go_wp2_with (first | (go_at_call 79; (refine HRn.out.mono ?_); rintro e w4 ⟨rfl, hr4, hf4⟩) | (go_at_call 58; (refine (string_run hr4 rfl).mono ?_); rintro e w5 ⟨rfl, hb5⟩))
  refine bodyPost_ret (results_tmp2 rfl _ _ _) rfl ⟨rfl, ?_⟩
  exact HBw.out.trans ((hr4.bel.trans hb5).mono HBw.out.size)
theorem flat_congr {α β : Type} {f g : α → List β} {l : List α} (h : ∀ x ∈ l, f x = g x) : l.flatMap f = l.flatMap g := by
  induction l with
  | nil => rfl
  | cons a l ih => rw [List.flatMap_cons, List.flatMap_cons, h a (by simp), ih (fun x hx => h x (List.mem_cons_of_mem _ hx))]
theorem good_up (m : MsgM) : ∀ (d : Nat) (al : List S40) (x : Nd), goodM m d al x → goodM m (d + 1) al x ∧ rendM m (d + 1) al x = rendM m d al x
  | 0, _, _, h => h.elim
  | d + 1, al, .lit s, h => ⟨h, rfl⟩
  | d + 1, al, .place a fl, h => ⟨h, rfl⟩
  | d + 1, al, .loop s inn, h => by
    obtain ⟨h1, h2, h3, h4⟩ := h
    refine ⟨⟨h1, h2, h3, fun b hb x hx => (good_up m d b x (h4 b hb x hx)).1⟩, ?_⟩
    show (listsM m s).flatMap (fun b => inn.flatMap (rendM m (d + 1) b)) = (listsM m s).flatMap (fun b => inn.flatMap (rendM m d b))
    exact flat_congr (fun b hb => flat_congr (fun x hx => (good_up m d b x (h4 b hb x hx)).2))
  | d + 1, al, .choice a fl y n, h => by
    obtain ⟨h1, h2, h3, h4, h5⟩ := h
    refine ⟨⟨h1, h2, h3, fun x hx => (good_up m d al x (h4 x hx)).1, fun x hx => (good_up m d al x (h5 x hx)).1⟩, ?_⟩
    show (if plM m al a fl = [] then n.flatMap (rendM m (d + 1) al) else y.flatMap (rendM m (d + 1) al)) = (if plM m al a fl = [] then n.flatMap (rendM m d al) else y.flatMap (rendM m d al))
    rw [flat_congr (fun x hx => (good_up m d al x (h4 x hx)).2), flat_congr (fun x hx => (good_up m d al x (h5 x hx)).2)]
theorem goods_up (m : MsgM) {al : List S40} {ns : List Nd} {D d : Nat} (hd : D ≤ d) (h : ∀ x ∈ ns, goodM m D al x) : (∀ x ∈ ns, goodM m d al x) ∧ rendsM m d al ns = rendsM m D al ns := by
  induction hd with
  | refl => exact ⟨h, rfl⟩
  | @step d _ ih => exact ⟨fun x hx => (good_up m d al x (ih.1 x hx)).1, (flat_congr (fun x hx => (good_up m d al x (ih.1 x hx)).2)).trans ih.2⟩
theorem NdsK.ups {ok : Nat → Prop} {w : World} {d F : Nat} {V : Value} {l : List Nd} (h : NdsK ok w d V l) (hd : d ≤ F) : NdsK ok w F V l := RowK.imp h (fun v x _ hv => hv.ups hd)
set_option maxRecDepth 100000 in
set_option maxHeartbeats 800000 in
/-- template.Render. -/
theorem Render_any {w : World} (hT : Tabs w) {m : MsgM} {pre : List Value} (hM : MsgC w m pre) (t : Bytes) (ht : t.length ≤ 4096) {ns : List Nd} {D : Nat} (hp : parseM t = .ok ns) (hc : chkM m = 0) (hg : ∀ x ∈ ns, goodM m D [] x) (hl : (rendsM m D [] ns).length ≤ 65536) (hn : ns.length ≤ 1000000) :
    Calls Tryz.prog 18 #[.string (str t), .agg pre.toArray] w fun e w' => e = .returned (.tuple #[.string (str (rendsM m D [] ns)), .int .i64 0]) ∧ Below w.heap.size w w' := by
  obtain ⟨Vg, Vf, Vr, rfl, hVg, hVf, hVr⟩ := hM
  obtain ⟨Ag, cg, rfl, hcg, hCg⟩ := hVg
  obtain ⟨Af, cf, rfl, hcf⟩ := hVf.form
  obtain ⟨Ar, cr, rfl, hcr⟩ := hVr.form
  have hM2 : MsgC w m [.string (str m.recv), .string (str m.key), .slice Ag m.group.length cg, .slice Af m.firing.length cf, .slice Ar m.resolved.length cr] := ⟨_, _, _, rfl, ⟨Ag, cg, rfl, hcg, hCg⟩, hVf, hVr⟩
  have hb1 : Below w.heap.size w (w.alloc (.cells #[.string (str m.recv), .string (str m.key), .slice Ag m.group.length cg, .slice Af m.firing.length cf, .slice Ar m.resolved.length cr] 33)) := below_alloc (Below.refl _ _) _
  have hbx : (w.alloc (.cells #[.string (str m.recv), .string (str m.key), .slice Ag m.group.length cg, .slice Af m.firing.length cf, .slice Ar m.resolved.length cr] 33)).heap[w.heap.size]? = some (.cells #[.string (str m.recv), .string (str m.key), .slice Ag m.group.length cg, .slice Af m.firing.length cf, .slice Ar m.resolved.length cr] 33 (0, 0)) := heap_alloc_new w _
  have hpa := parse_any (hT.below hb1) t ht
  rw [hp] at hpa
  have HPa := Lib.hid hpa
  have HM := Lib.hid hM2
  have HB1 := Lib.hid hb1
  have HBx := Lib.hid hbx
  have HG := Lib.hid hg
  have HL := Lib.hid hl
  obtain ⟨out, hout⟩ : ∃ o, rendsM m D [] ns = o := ⟨_, rfl⟩
  have HOut := Lib.hid hout
  rw [hout]
  clear hpa hM2 hb1 hbx hg hl hCg hVf hVr hp hout
  go_enter Tryz.func18, Tryz.ntmps18
  go_upto_region 2 with (first | (go_at_call 36; (refine HPa.out.mono ?_); rintro e w2 ⟨hb2, h, V, d, rfl, hh, hhb, hN⟩))
  have hbq := blk_below HBx.out hb2
  have e0 : w2.cell? ⟨w.heap.size, 0, none⟩ = some (.string (str m.recv)) := (blk_cell hbq 0).trans rfl
  have e1 : w2.cell? ⟨w.heap.size, 1, none⟩ = some (.string (str m.key)) := (blk_cell hbq 1).trans rfl
  have e2 : w2.cell? ⟨w.heap.size, 2, none⟩ = some (.slice Ag m.group.length cg) := (blk_cell hbq 2).trans rfl
  have e3 : w2.cell? ⟨w.heap.size, 3, none⟩ = some (.slice Af m.firing.length cf) := (blk_cell hbq 3).trans rfl
  have e4 : w2.cell? ⟨w.heap.size, 4, none⟩ = some (.slice Ar m.resolved.length cr) := (blk_cell hbq 4).trans rfl
  have hbw := HB1.out.trans (hb2.mono HB1.out.size)
  obtain ⟨hg2, hr2⟩ := goods_up m (Nat.le_max_left D d) HG.out
  have hrd := render_any (hT.below hbw) (HM.out.below hbw) hhb (hN.ups (Nat.le_max_right D d)) hc hg2 (by rw [hr2]; exact HL.out) hn
  rw [hr2, HOut.out] at hrd
  have HRd := Lib.hid hrd
  have HBw := Lib.hid hbw
  clear hb2 hbq hbw hg2 hr2 hrd hhb hN
  go_wp2_with (first | (go_at_call 46; (refine HRd.out.mono ?_); rintro e w5 ⟨rfl, hb5⟩))
  refine bodyPost_ret (results_tmp2 rfl _ _ _) rfl ⟨rfl, HBw.out.trans (hb5.mono HBw.out.size)⟩
end Go.Proofs.YtllhpkpckjacfaaGreatDoor
