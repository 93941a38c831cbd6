/- The walk of the reference's Allow where buckets are forgotten first; all its ways in one. -/
import Derived.Test.YtgphhjghodhodaaRefD
namespace Go.Proofs.Ytgphhjghodhodaa
open Go.RowKit Go.Maps Go.WideMaps Go.Proofs.YtgphhjghodhodaaMp Go.Proofs.YtgphhjghodhodaaW.PrintWords Go.Proofs.Ytgphhjghodhodaa.PNext
set_option linter.unusedVariables false

theorem bkOf_miss {r b : Int} {B : List (Key × Bk)} {k : Key} {t : Int} {x : Bk} (h : bkOf r b B k t = (x, false)) : x = (1000 * b, t) := by
  unfold bkOf at h
  cases hc : kvLook B k with
  | some c => rw [hc] at h; cases h
  | none => rw [hc] at h; cases h; rfl

theorem bkOf_le {r b : Int} {xs : List S71} (hI : RInv r b xs) {k : Key} {t : Int} {x : Bk} {is : Bool} (h : bkOf r b (toB xs) k t = (x, is)) : x.1 ≤ 1000 * b := by
  unfold bkOf at h
  cases hc : kvLook (toB xs) k with
  | some c =>
    rw [hc] at h
    cases h
    obtain ⟨s, hs, he⟩ := List.mem_map.1 (kvLook_some_mem hc)
    have := (hI.inv s hs).2.1
    cases he
    unfold bkAt
    split
    · exact this
    · simp only; omega
  | none => rw [hc] at h; cases h; simp

set_option maxRecDepth 100000 in
set_option maxHeartbeats 1000000 in
theorem rallow_fg_full (w : World) (V : Value) (base : Nat) (ok : Nat → Prop) (r b d t : Int) (xs : List S71) (hI : RInv r b xs) (hR : Kd.R k71 71 w base ok V xs) (hbase : base ≤ w.heap.size) (hok : ∀ k, w.heap.size ≤ k → ok k) (key : ByteArray) (ht0 : 0 ≤ t) (ht : t ≤ 1099511627776) (hd : 0 ≤ d ∧ d ≤ 1000000000)
    (x : Bk) (hx : bkOf r b (toB xs) key.data.toList t = (x, false)) (hx1 : x.1 ≤ 1000000000) (hlen : 256 ≤ xs.length) (hlen2 : 256 ≤ (xs.filter (keepS r b t)).length) :
    Calls Try.prog 26 #[.agg #[.int .i64 r, .int .i64 b, V, .int .i64 d], .string key, .int .i64 t] w (RaPost w base ok r b (d + 1) false (xs.filter (keepS r b t))) := by
  obtain ⟨A, c, rfl, hcap, hC⟩ := Kd.R_reads hR
  obtain ⟨hd0, hd1⟩ := hd
  have HC := Lib.hid hC
  have HI := Lib.hid hI
  have HX := Lib.hid hx
  have HR := Lib.hid hR
  have hfew := hI.few
  have hlt0 : xs.length = xs.length := rfl
  clear hC hI hx hR hlt0
  go_enter Try.func26, Try.ntmps26
  go_wp2_with (first | (go_at_call 30; refine (time_yes t _ ht0 ht).mono ?_; rintro e w' ⟨rfl, rfl⟩) | fail)
  have hst := fg_start w A c r b d t xs
  have HST := Lib.hid hst
  refine (rbucket_any HI.out d t ht key x false HX.out A c _ (Kd.C_below HC.out hst.bel) hcap).mono ?_
  rintro e w1 ⟨rfl, hb1⟩
  have h1 := HST.out.below hb1
  have hz0 : w.heap.size < w1.heap.size := (Array.getElem?_eq_some_iff.1 h1.b2).1
  have hz1 : w.heap.size + 1 < w1.heap.size := (Array.getElem?_eq_some_iff.1 h1.b4).1
  have k20 := (cells_of h1.b2 0).1
  have k21 := (cells_of h1.b2 1).1
  have k22 := (cells_of h1.b2 2).1
  have k23 := (cells_of h1.b2 3).1
  have f20 := (cells_of h1.b2 0).2
  have f21 := (cells_of h1.b2 1).2
  have f22 := (cells_of h1.b2 2).2
  have f23 := (cells_of h1.b2 3).2
  simp only [List.getElem?_toArray, List.getElem?_cons_succ, List.getElem?_cons_zero] at k20 k21 k22 k23
  have HB1 := Lib.hid h1.bel
  have HG4 := Lib.hid h1.b4
  clear hb1 h1 hst HST
  go_wp2_with fail
  obtain ⟨Wa, hWa⟩ : ∃ W, w1.alloc (.cells #[.string key, .int .i64 x.1, .int .i64 x.2] 71) = W := ⟨_, rfl⟩
  have ha : Below w1.heap.size w1 Wa := by rw [← hWa]; exact (Below.refl _ _).alloc (Nat.le_refl _) _
  have hla : w1.heap.size < Wa.heap.size := by rw [← hWa]; simp
  have hna : Wa.heap[w1.heap.size]? = some (.cells #[.string key, .int .i64 x.1, .int .i64 x.2] 71) := by rw [← hWa]; exact heap_alloc_new _ _
  rw [hWa]
  clear hWa
  have HBA := Lib.hid (HB1.out.trans (ha.mono (by omega)))
  refine (rforget_yes Wa A c r b d t xs HI.out ht0 ht (Kd.C_below HC.out HBA.out) hcap).mono ?_
  rintro e w2 ⟨v2, rfl, hr2, hb2⟩
  obtain ⟨A2, c2, hv2⟩ := Kd.R_slice hr2
  subst hv2
  have p20 := ((bcell hb2).1 _ 0 (by omega)).trans (((bcell ha).1 _ 0 hz0).trans k20)
  have p21 := ((bcell hb2).1 _ 1 (by omega)).trans (((bcell ha).1 _ 1 hz0).trans k21)
  have p22 := ((bcell hb2).1 _ 2 (by omega)).trans (((bcell ha).1 _ 2 hz0).trans k22)
  have p23 := ((bcell hb2).1 _ 3 (by omega)).trans (((bcell ha).1 _ 3 hz0).trans k23)
  have u20 := ((bcell hb2).2 _ 0 (by omega)).trans (((bcell ha).2 _ 0 hz0).trans f20)
  have u21 := ((bcell hb2).2 _ 1 (by omega)).trans (((bcell ha).2 _ 1 hz0).trans f21)
  have u22 := ((bcell hb2).2 _ 2 (by omega)).trans (((bcell ha).2 _ 2 hz0).trans f22)
  have u23 := ((bcell hb2).2 _ 3 (by omega)).trans (((bcell ha).2 _ 3 hz0).trans f23)
  have hg4 := (hb2.block _ (by omega)).trans ((ha.block _ hz1).trans HG4.out)
  have hnb := (hb2.block _ hla).trans hna
  have q0 := (cells_of hnb 0).1
  have q1 := (cells_of hnb 1).1
  have q2 := (cells_of hnb 2).1
  have q1f := (cells_of hnb 1).2
  simp only [List.getElem?_toArray, List.getElem?_cons_succ, List.getElem?_cons_zero] at q0 q1 q2
  have HR2 := Lib.hid (Kd.R_mono (Kd.R_bound hr2) (fun k hk => hk.2.1))
  have HB2 := Lib.hid (HBA.out.trans (hb2.mono (by omega)))
  have HGG := Lib.hid hg4
  have hz2 : w1.heap.size < w2.heap.size := Nat.lt_of_lt_of_le hla hb2.size
  have hle2 := List.length_filter_le (keepS r b t) xs
  clear hr2 hb2 hg4 hnb hna ha k20 k21 k22 k23 f20 f21 f22 f23
  obtain ⟨xs1, hxs1⟩ : ∃ ys, xs.filter (keepS r b t) = ys := ⟨_, rfl⟩
  rw [hxs1] at HR2 hle2 hlen2
  rw [hxs1]
  have HXS := Lib.hid hxs1
  clear hxs1
  obtain ⟨Wd, hWd⟩ : ∃ W, ((((w2.setCell ⟨w.heap.size, 0, none⟩ (.int .i64 r)).setCell ⟨w.heap.size, 1, none⟩ (.int .i64 b)).setCell ⟨w.heap.size, 2, none⟩ (.slice A2 xs1.length c2)).setCell ⟨w.heap.size, 3, none⟩ (.int .i64 d)) = W := ⟨_, rfl⟩
  have hbd : Below w.heap.size w Wd := by rw [← hWd]; exact (((HB2.out.setCell (by simp only; omega) _).setCell (by simp only; omega) _).setCell (by simp only; omega) _).setCell (by simp only; omega) _
  have hgd : Wd.heap[w.heap.size + 1]? = some (.cells #[.int .i64 0, .int .i64 0, .slice none 0 0, .int .i64 0] 44) := by
    rw [← hWd]; rw [Below.heap_setCell _ _ _ _ (by simp only; omega), Below.heap_setCell _ _ _ _ (by simp only; omega), Below.heap_setCell _ _ _ _ (by simp only; omega), Below.heap_setCell _ _ _ _ (by simp only; omega)]; exact HGG.out
  have hrd : Kd.R k71 71 Wd Wa.heap.size (fun k => Wa.heap.size ≤ k) (.slice A2 xs1.length c2) xs1 := by
    rw [← hWd]
    repeat (with_reducible first | exact HR2.out | refine Kd.R_far ?_ (fun k hk => by simp only; omega) _)
  have HBD := Lib.hid hbd
  have HRD := Lib.hid hrd
  have j40 := (cells_of hgd 0).1
  have j41 := (cells_of hgd 1).1
  have j42 := (cells_of hgd 2).1
  have j43 := (cells_of hgd 3).1
  have f40 := (cells_of hgd 0).2
  have f41 := (cells_of hgd 1).2
  have f42 := (cells_of hgd 2).2
  have f43 := (cells_of hgd 3).2
  simp only [List.getElem?_toArray, List.getElem?_cons_succ, List.getElem?_cons_zero] at j40 j41 j42 j43
  have k40 : Wd.cell? ⟨w.heap.size, 0, none⟩ = some (.int .i64 r) := by subst hWd; go_simp
  have k41 : Wd.cell? ⟨w.heap.size, 1, none⟩ = some (.int .i64 b) := by subst hWd; go_simp
  have k42 : Wd.cell? ⟨w.heap.size, 2, none⟩ = some (.slice A2 xs1.length c2) := by subst hWd; go_simp
  have k43 : Wd.cell? ⟨w.heap.size, 3, none⟩ = some (.int .i64 d) := by subst hWd; go_simp
  have g40 : Wd.frozen? ⟨w.heap.size, 0, none⟩ = false := by subst hWd; go_simp
  have g41 : Wd.frozen? ⟨w.heap.size, 1, none⟩ = false := by subst hWd; go_simp
  have g42 : Wd.frozen? ⟨w.heap.size, 2, none⟩ = false := by subst hWd; go_simp
  have g43 : Wd.frozen? ⟨w.heap.size, 3, none⟩ = false := by subst hWd; go_simp
  clear hbd hrd hgd q0 q1 q2 q1f
  iterate 16 (first | go_values | go_skip | go_guarded | go_step | go_upon | go_in | go_back | go_simp | (go_values <;> (try go_simp)) | (go_ite <;> go_prune <;> (try go_simp)))
  clear hWd p20 p21 p22 p23 u20 u21 u22 u23
  go_wp2
  refine bodyPost_ret (v := .tuple #[.agg #[.int .i64 r, .int .i64 b, .slice A2 xs1.length c2, .int .i64 (d + 1)], .bool false]) ?_ rfl ⟨_, rfl, ?_, ?_⟩
  · simp only [results, Try.results26]
    go_simp
  · rw [HXS.out]
    refine Kd.R_lower (base := Wa.heap.size) (Kd.R_mono (ok := fun k => Wa.heap.size ≤ k) ?_ (fun k hk => hok k (by omega))) (by omega)
    repeat (with_reducible first | exact HRD.out | refine Kd.R_far ?_ (fun k hk => by simp only; omega) _)
  · repeat (with_reducible first | exact HBD.out | refine Below.setCell ?_ (by simp only; omega) _)

set_option maxRecDepth 100000 in
set_option maxHeartbeats 1000000 in
theorem rallow_fg_yes (w : World) (V : Value) (base : Nat) (ok : Nat → Prop) (r b d t : Int) (xs : List S71) (hI : RInv r b xs) (hR : Kd.R k71 71 w base ok V xs) (hbase : base ≤ w.heap.size) (hok : ∀ k, w.heap.size ≤ k → ok k) (key : ByteArray) (ht0 : 0 ≤ t) (ht : t ≤ 1099511627776) (hd : 0 ≤ d ∧ d ≤ 1000000000)
    (x : Bk) (hx : bkOf r b (toB xs) key.data.toList t = (x, false)) (hhigh : 1000 ≤ x.1) (hx1 : x.1 ≤ 1000000000) (hlen : 256 ≤ xs.length) (hlen2 : (xs.filter (keepS r b t)).length < 256) :
    Calls Try.prog 26 #[.agg #[.int .i64 r, .int .i64 b, V, .int .i64 d], .string key, .int .i64 t] w (RaPost w base ok r b d true (withS (xs.filter (keepS r b t)) ⟨key, x.1 - 1000, x.2⟩)) := by
  obtain ⟨A, c, rfl, hcap, hC⟩ := Kd.R_reads hR
  obtain ⟨hd0, hd1⟩ := hd
  have HC := Lib.hid hC
  have HI := Lib.hid hI
  have HX := Lib.hid hx
  have HR := Lib.hid hR
  have hfew := hI.few
  have hlt0 : xs.length = xs.length := rfl
  clear hC hI hx hR hlt0
  go_enter Try.func26, Try.ntmps26
  go_wp2_with (first | (go_at_call 30; refine (time_yes t _ ht0 ht).mono ?_; rintro e w' ⟨rfl, rfl⟩) | fail)
  have hst := fg_start w A c r b d t xs
  have HST := Lib.hid hst
  refine (rbucket_any HI.out d t ht key x false HX.out A c _ (Kd.C_below HC.out hst.bel) hcap).mono ?_
  rintro e w1 ⟨rfl, hb1⟩
  have h1 := HST.out.below hb1
  have hz0 : w.heap.size < w1.heap.size := (Array.getElem?_eq_some_iff.1 h1.b2).1
  have hz1 : w.heap.size + 1 < w1.heap.size := (Array.getElem?_eq_some_iff.1 h1.b4).1
  have k20 := (cells_of h1.b2 0).1
  have k21 := (cells_of h1.b2 1).1
  have k22 := (cells_of h1.b2 2).1
  have k23 := (cells_of h1.b2 3).1
  have f20 := (cells_of h1.b2 0).2
  have f21 := (cells_of h1.b2 1).2
  have f22 := (cells_of h1.b2 2).2
  have f23 := (cells_of h1.b2 3).2
  simp only [List.getElem?_toArray, List.getElem?_cons_succ, List.getElem?_cons_zero] at k20 k21 k22 k23
  have HB1 := Lib.hid h1.bel
  have HG4 := Lib.hid h1.b4
  clear hb1 h1 hst HST
  go_wp2_with fail
  obtain ⟨Wa, hWa⟩ : ∃ W, w1.alloc (.cells #[.string key, .int .i64 x.1, .int .i64 x.2] 71) = W := ⟨_, rfl⟩
  have ha : Below w1.heap.size w1 Wa := by rw [← hWa]; exact (Below.refl _ _).alloc (Nat.le_refl _) _
  have hla : w1.heap.size < Wa.heap.size := by rw [← hWa]; simp
  have hna : Wa.heap[w1.heap.size]? = some (.cells #[.string key, .int .i64 x.1, .int .i64 x.2] 71) := by rw [← hWa]; exact heap_alloc_new _ _
  rw [hWa]
  clear hWa
  have HBA := Lib.hid (HB1.out.trans (ha.mono (by omega)))
  refine (rforget_yes Wa A c r b d t xs HI.out ht0 ht (Kd.C_below HC.out HBA.out) hcap).mono ?_
  rintro e w2 ⟨v2, rfl, hr2, hb2⟩
  obtain ⟨A2, c2, hv2⟩ := Kd.R_slice hr2
  subst hv2
  have p20 := ((bcell hb2).1 _ 0 (by omega)).trans (((bcell ha).1 _ 0 hz0).trans k20)
  have p21 := ((bcell hb2).1 _ 1 (by omega)).trans (((bcell ha).1 _ 1 hz0).trans k21)
  have p22 := ((bcell hb2).1 _ 2 (by omega)).trans (((bcell ha).1 _ 2 hz0).trans k22)
  have p23 := ((bcell hb2).1 _ 3 (by omega)).trans (((bcell ha).1 _ 3 hz0).trans k23)
  have u20 := ((bcell hb2).2 _ 0 (by omega)).trans (((bcell ha).2 _ 0 hz0).trans f20)
  have u21 := ((bcell hb2).2 _ 1 (by omega)).trans (((bcell ha).2 _ 1 hz0).trans f21)
  have u22 := ((bcell hb2).2 _ 2 (by omega)).trans (((bcell ha).2 _ 2 hz0).trans f22)
  have u23 := ((bcell hb2).2 _ 3 (by omega)).trans (((bcell ha).2 _ 3 hz0).trans f23)
  have hg4 := (hb2.block _ (by omega)).trans ((ha.block _ hz1).trans HG4.out)
  have hnb := (hb2.block _ hla).trans hna
  have q0 := (cells_of hnb 0).1
  have q1 := (cells_of hnb 1).1
  have q2 := (cells_of hnb 2).1
  have q1f := (cells_of hnb 1).2
  simp only [List.getElem?_toArray, List.getElem?_cons_succ, List.getElem?_cons_zero] at q0 q1 q2
  have HR2 := Lib.hid (Kd.R_mono (Kd.R_bound hr2) (fun k hk => hk.2.1))
  have HB2 := Lib.hid (HBA.out.trans (hb2.mono (by omega)))
  have HGG := Lib.hid hg4
  have hz2 : w1.heap.size < w2.heap.size := Nat.lt_of_lt_of_le hla hb2.size
  have hle2 := List.length_filter_le (keepS r b t) xs
  clear hr2 hb2 hg4 hnb hna ha k20 k21 k22 k23 f20 f21 f22 f23
  obtain ⟨xs1, hxs1⟩ : ∃ ys, xs.filter (keepS r b t) = ys := ⟨_, rfl⟩
  rw [hxs1] at HR2 hle2 hlen2
  rw [hxs1]
  have HXS := Lib.hid hxs1
  clear hxs1
  go_wp2_with fail
  obtain ⟨Wc, hWc⟩ : ∃ W, ((((w2.setCell ⟨w.heap.size, 0, none⟩ (.int .i64 r)).setCell ⟨w.heap.size, 1, none⟩ (.int .i64 b)).setCell ⟨w.heap.size, 2, none⟩ (.slice A2 xs1.length c2)).setCell ⟨w.heap.size, 3, none⟩ (.int .i64 d)).setCell ⟨w1.heap.size, 1, none⟩ (.int .i64 (x.1 - 1000)) = W := ⟨_, rfl⟩
  have hbc : Below w.heap.size w Wc := by rw [← hWc]; exact ((((HB2.out.setCell (by simp only; omega) _).setCell (by simp only; omega) _).setCell (by simp only; omega) _).setCell (by simp only; omega) _).setCell (by simp only; omega) _
  have hgc : Wc.heap[w.heap.size + 1]? = some (.cells #[.int .i64 0, .int .i64 0, .slice none 0 0, .int .i64 0] 44) := by
    rw [← hWc]; rw [Below.heap_setCell _ _ _ _ (by simp only; omega), Below.heap_setCell _ _ _ _ (by simp only; omega), Below.heap_setCell _ _ _ _ (by simp only; omega), Below.heap_setCell _ _ _ _ (by simp only; omega), Below.heap_setCell _ _ _ _ (by simp only; omega)]; exact HGG.out
  have hrc : Kd.R k71 71 Wc Wa.heap.size (fun k => Wa.heap.size ≤ k) (.slice A2 xs1.length c2) xs1 := by
    rw [← hWc]
    repeat (with_reducible first | exact HR2.out | refine Kd.R_far ?_ (fun k hk => by simp only; omega) _)
  obtain ⟨A', c', he, hcap2, hC2⟩ := Kd.R_reads hrc
  simp only [Value.slice.injEq] at he
  obtain ⟨rfl, -, rfl⟩ := he
  have HC2 := Lib.hid hC2
  rw [hWc]
  clear hC2 hrc
  have HBC := Lib.hid hbc
  have HGC := Lib.hid hgc
  have hzc : w.heap.size + 1 < Wc.heap.size := (Array.getElem?_eq_some_iff.1 hgc).1
  clear hWc hbc hgc p20 p21 p22 p23 u20 u21 u22 u23 q0 q1 q2 q1f
  refine (with_any Wc A2 c2 r b d xs1 ⟨key, x.1 - 1000, x.2⟩ HC2.out hcap2 (by omega)).mono ?_
  rintro e w3 ⟨v3, rfl, hr3, hb3⟩
  obtain ⟨A3, c3, hv3⟩ := Kd.R_slice hr3
  subst hv3
  have hb4 := (hb3.block _ hzc).trans HGC.out
  have j40 := (cells_of hb4 0).1
  have j41 := (cells_of hb4 1).1
  have j42 := (cells_of hb4 2).1
  have j43 := (cells_of hb4 3).1
  have f40 := (cells_of hb4 0).2
  have f41 := (cells_of hb4 1).2
  have f42 := (cells_of hb4 2).2
  have f43 := (cells_of hb4 3).2
  simp only [List.getElem?_toArray, List.getElem?_cons_succ, List.getElem?_cons_zero] at j40 j41 j42 j43
  have HR3 := Lib.hid (Kd.R_mono (Kd.R_bound hr3) (fun k hk => hk.2.1))
  have HB3 := Lib.hid (HBC.out.trans (hb3.mono (by omega)))
  clear hr3 hb3 hb4
  obtain ⟨n3, hn3⟩ : ∃ n, (withS xs1 ⟨key, x.1 - 1000, x.2⟩).length = n := ⟨_, rfl⟩
  rw [hn3] at HR3
  rw [hn3]
  clear hn3
  go_wp2
  refine bodyPost_ret (v := .tuple #[.agg #[.int .i64 r, .int .i64 b, .slice A3 n3 c3, .int .i64 d], .bool true]) ?_ rfl ⟨_, rfl, ?_, ?_⟩
  · simp only [results, Try.results26]
    go_simp
  · rw [HXS.out]
    refine Kd.R_lower (base := Wc.heap.size) (Kd.R_mono (ok := fun k => Wc.heap.size ≤ k) ?_ (fun k hk => hok k (by omega))) (by omega)
    repeat (with_reducible first | exact HR3.out | refine Kd.R_far ?_ (fun k hk => by simp only; omega) _)
  · repeat (with_reducible first | exact HB3.out | refine Below.setCell ?_ (by simp only; omega) _)


/-- The reference's Allow: what the program's list says. -/
theorem rallow_any (w : World) (V : Value) (base : Nat) (ok : Nat → Prop) (r b d t : Int) (xs : List S71) (hI : RInv r b xs) (hR : Kd.R k71 71 w base ok V xs) (hbase : base ≤ w.heap.size) (hok : ∀ k, w.heap.size ≤ k → ok k) (key : ByteArray) (hd : 0 ≤ d ∧ d ≤ 1000000000)
    (is : Bool) (d' : Int) (B' : List (Key × Bk)) (h : allowM r b (toB xs) d key.data.toList t = (is, d', B')) :
    Calls Try.prog 26 #[.agg #[.int .i64 r, .int .i64 b, V, .int .i64 d], .string key, .int .i64 t] w fun e w' => ∃ ys, toB ys = B' ∧ RaPost w base ok r b d' is ys e w' := by
  by_cases ht : 0 ≤ t ∧ t ≤ 1099511627776
  · obtain ⟨x, b', hx⟩ : ∃ x b', bkOf r b (toB xs) key.data.toList t = (x, b') := ⟨_, _, rfl⟩
    have hx1 : x.1 ≤ 1000 * b := bkOf_le hI hx
    have hb1 := hI.b1
    cases b' with
    | true =>
      have hf := finish_allow hI.b0 (d := d) ht hx (.inl rfl)
      rw [hf] at h
      unfold finishS at h
      by_cases hl : x.1 < 1000
      · rw [if_pos hl] at h
        cases h
        exact (rallow_hit_no w V base ok r b d t xs hI hR hbase hok key ht.1 ht.2 hd x hx hl).mono (fun e w' q => ⟨_, rfl, q⟩)
      · rw [if_neg hl] at h
        cases h
        exact (rallow_hit_yes w V base ok r b d t xs hI hR hbase hok key ht.1 ht.2 hd x hx (by omega) (by omega)).mono (fun e w' q => ⟨_, rfl, q⟩)
    | false =>
      have hxx : x = (1000 * b, t) := bkOf_miss hx
      have hb0 := hI.b0
      have hhigh : 1000 ≤ x.1 := by rw [hxx]; simp only; omega
      by_cases hlen : xs.length < 256
      · have hf := finish_allow hI.b0 (d := d) ht hx (.inr hlen)
        rw [hf] at h
        unfold finishS at h
        rw [if_neg (by omega)] at h
        cases h
        exact (rallow_few w V base ok r b d t xs hI hR hbase hok key ht.1 ht.2 hd x hx hhigh (by omega) hlen).mono (fun e w' q => ⟨_, rfl, q⟩)
      · have hf := forget_allow hI.b0 (d := d) ht hx (by omega)
        rw [hf] at h
        by_cases hlen2 : (xs.filter (keepS r b t)).length < 256
        · rw [if_pos hlen2] at h
          unfold finishS at h
          rw [if_neg (by omega)] at h
          cases h
          exact (rallow_fg_yes w V base ok r b d t xs hI hR hbase hok key ht.1 ht.2 hd x hx hhigh (by omega) (by omega) hlen2).mono (fun e w' q => ⟨_, rfl, q⟩)
        · rw [if_neg hlen2] at h
          cases h
          exact (rallow_fg_full w V base ok r b d t xs hI hR hbase hok key ht.1 ht.2 hd x hx (by omega) (by omega) (by omega)).mono (fun e w' q => ⟨_, rfl, q⟩)
  · have hf : allowM r b (toB xs) d key.data.toList t = (false, d + 1, toB xs) := by unfold allowM; rw [if_neg ht]
    rw [hf] at h
    cases h
    exact (rallow_bad w V base ok r b d t xs hR key ht hd).mono (fun e w' q => ⟨_, rfl, q⟩)

end Go.Proofs.Ytgphhjghodhodaa
