/- The walk of LimitForks. -/
import Derived.Test.YtgphhjghodhodaaPyW
namespace Go.Proofs.Ytgphhjghodhodaa
open Go.RowKit Go.Maps Go.WideMaps Go.Proofs.YtgphhjghodhodaaMp Go.Proofs.YtgphhjghodhodaaW.PrintWords Go.Proofs.Ytgphhjghodhodaa.PNext
set_option linter.unusedVariables false
set_option linter.unusedSimpArgs false

theorem box_start0 (W : World) (r b : Int) : PyBox W (W.alloc (.cells #[.int .i64 r, .int .i64 b] 39)) r b := ⟨heap_alloc_new W _, (Below.refl _ _).alloc (Nat.le_refl _) _⟩

/-- A world that lies below a mark whole. -/
structure Wld2 (w : World) (q p m N : Nat) (r b d now : Int) (xs : List S71) : Prop where
  row : ∃ A c, w.heap[q]? = some (.cells #[.pointer (some ⟨p, 0, none⟩), .int .i64 r, .int .i64 b, .slice A xs.length c, .int .i64 d, .int .i64 now] 49) ∧ Kd.R k71 71 w 0 (fun k => (k ≠ q ∧ k ≠ p ∧ k ≠ m) ∧ k < N) (.slice A xs.length c) xs
  lim : Lim w p m r b d (toB xs)
  qp : q ≠ p
  qm : q ≠ m
  qN : q < N
  pN : p < N
  mN : m < N

theorem Wld2.wld {w : World} {q p m N : Nat} {r b d now : Int} {xs : List S71} (h : Wld2 w q p m N r b d now xs) : Wld w q p m r b d now xs := by
  obtain ⟨A, c, hq, hR⟩ := h.row
  exact ⟨⟨A, c, hq, Kd.R_mono hR (fun k hk => hk.1)⟩, h.lim, h.qp, h.qm⟩

theorem Wld2.turn {w w' : World} {q p m N : Nat} {r b d now : Int} {xs : List S71} (h : Wld2 w q p m N r b d now xs) {S : Nat → Prop} (t : Turn S w w') (hS : ∀ k, S k → N ≤ k) : Wld2 w' q p m N r b d now xs := by
  obtain ⟨A, c, hq, hR⟩ := h.row
  have hql : q < w.heap.size := (Array.getElem?_eq_some_iff.1 hq).1
  have hqN := h.qN
  have hpN := h.pN
  have hmN := h.mN
  exact ⟨⟨A, c, (t.block q hql (fun e => by have := hS _ e; omega)).trans hq, Kd.R_step hR (fun k ho hk => t.block k hk (fun e => by have := hS _ e; omega))⟩, h.lim.kept t (fun e => by have := hS _ e; omega) (fun e => by have := hS _ e; omega), h.qp, h.qm, h.qN, h.pN, h.mN⟩

theorem wld_fork {w w1 : World} {q p m p' m' : Nat} {r b d now : Int} {ys : List S71} {A : Option Addr} {c : Nat}
    (hq : w.heap[q]? = some (.cells #[.pointer (some ⟨p, 0, none⟩), .int .i64 r, .int .i64 b, .slice A ys.length c, .int .i64 d, .int .i64 now] 49)) (hR : Kd.R k71 71 w 0 (fun k => k ≠ q ∧ k ≠ p ∧ k ≠ m) (.slice A ys.length c) ys) (L : Lim w p m r b d (toB ys)) (hqp : q ≠ p) (hqm : q ≠ m)
    (L' : Lim w1 p' m' r b d (toB ys)) (bF : Below w.heap.size w w1) (hp : w.heap.size ≤ p') (hm : w.heap.size ≤ m') {W6 : World}
    (hW : w1.alloc (.cells #[.pointer (some ⟨p', 0, none⟩), .int .i64 r, .int .i64 b, .slice A ys.length c, .int .i64 d, .int .i64 now] 49) = W6) :
    Wld W6 w1.heap.size p' m' r b d now ys ∧ Wld2 W6 q p m w.heap.size r b d now ys ∧ Below w.heap.size w W6 ∧ w.heap.size ≤ w1.heap.size := by
  have bA : Below w1.heap.size w1 W6 := hW ▸ (Below.refl _ _).alloc (Nat.le_refl _) _
  have b6 := bF.trans (bA.mono bF.size)
  have hR6 := Kd.R_below (R_keep hR) b6
  have hs := bF.size
  refine ⟨⟨⟨A, c, hW ▸ heap_alloc_new _ _, Kd.R_mono hR6 (fun k hk => by have := hk.2; omega)⟩, L'.below bA, Nat.ne_of_gt L'.lt, Nat.ne_of_gt L'.ltm⟩, ⟨⟨A, c, (b6.block q (Array.getElem?_eq_some_iff.1 hq).1).trans hq, hR6⟩, L.below b6, hqp, hqm, (Array.getElem?_eq_some_iff.1 hq).1, L.lt, L.ltm⟩, b6, hs⟩

/-- Where the second loop stands. -/
structure FkRel (W wr : World) (f p' m' q p m N : Nat) (r b d0 now0 : Int) (ys0 : List S71) (j : Nat) : Prop where
  fork : ∃ (d now : Int) (ys : List S71), 0 ≤ d ∧ d ≤ 200 + j ∧ 0 ≤ now ∧ now ≤ 65535 * (200 + j) ∧ Wld wr f p' m' r b d now ys
  old : Wld2 wr q p m N r b d0 now0 ys0
  bel : Below W.heap.size W wr

theorem wld_lim {w : World} {q p m : Nat} {r b d now : Int} {xs : List S71} (h : Wld w q p m r b d now xs) : w.cell? ⟨q, 0, none⟩ = some (.pointer (some ⟨p, 0, none⟩)) := by
  obtain ⟨A, c, hq, -⟩ := h.row
  have := (cells_of hq 0).1
  simpa only [List.getElem?_toArray, List.getElem?_cons_succ, List.getElem?_cons_zero] using this

set_option maxRecDepth 100000 in
set_option maxHeartbeats 2000000 in
theorem forks_bad (r b : Int) (hrb : ¬ okRule r b) (xs ms : List S32) (A A2 : Option Addr) (cap cap2 : Nat) (W : World) :
    Calls Try.prog 7 #[.agg #[.int .i64 r, .int .i64 b], .slice A xs.length cap, .slice A2 ms.length cap2] W fun e w' => e = .returned (.bool true) ∧ Below W.heap.size W w' := by
  have HO := Lib.hid hrb
  clear hrb
  go_enter Try.func7, Try.ntmps7
  go_wp2_with fail
  refine calls_at (fun W1 => PyBox W W1 r b) (box_start0 _ _ _) ?_
  intro W1 hP
  have HP := Lib.hid hP
  clear hP
  refine (new_bad r b W1 HO.out).mono ?_
  rintro e W2 ⟨rfl, hb2⟩
  have HP2 := Lib.hid (HP.out.below hb2)
  have k0 := (cells_of HP2.out.box 0).1
  have k1 := (cells_of HP2.out.box 1).1
  simp only [List.getElem?_toArray, List.getElem?_cons_succ, List.getElem?_cons_zero] at k0 k1
  have hz2 : W.heap.size < W2.heap.size := (Array.getElem?_eq_some_iff.1 HP2.out.box).1
  clear hb2
  go_wp2_with fail
  refine (rnew_bad r b W2 HO.out).mono ?_
  rintro e W3 ⟨rfl, hb3⟩
  have HP3 := Lib.hid (HP2.out.below hb3)
  have hz3 : W.heap.size < W3.heap.size := (Array.getElem?_eq_some_iff.1 HP3.out.box).1
  clear hb3 k0 k1
  go_wp2_with fail
  refine (awake_any _).mono ?_
  rintro e W5 ⟨rfl, hb5⟩
  have HB5 := Lib.hid (HP3.out.bel.trans (((Below.refl W3.heap.size W3).alloc (Nat.le_refl _) _ |>.trans (hb5.mono (by simp))).mono HP3.out.bel.size))
  clear hb5
  go_wp2
  go_ret
  exact ⟨rfl, HB5.out⟩

set_option maxRecDepth 100000 in
set_option maxHeartbeats 2000000 in
theorem forks_long1 (r b : Int) (hrb : okRule r b) (xs ms : List S32) (h : 200 < xs.length) (A A2 : Option Addr) (cap cap2 : Nat) (W : World) :
    Calls Try.prog 7 #[.agg #[.int .i64 r, .int .i64 b], .slice A xs.length cap, .slice A2 ms.length cap2] W fun e w' => e = .returned (.bool true) ∧ Below W.heap.size W w' := by
  have HO := Lib.hid hrb
  clear hrb
  go_enter Try.func7, Try.ntmps7
  go_wp2_with fail
  refine calls_at (fun W1 => PyBox W W1 r b) (box_start0 _ _ _) ?_
  intro W1 hP
  have HP := Lib.hid hP
  clear hP
  refine (new_any r b W1 HO.out.1 HO.out.2.1 HO.out.2.2.1 HO.out.2.2.2).mono ?_
  rintro e W2 ⟨p, m, rfl, L2, hb2, hp, hm⟩
  have HP2 := Lib.hid (HP.out.below hb2)
  have HL2 := Lib.hid L2
  have k0 := (cells_of HP2.out.box 0).1
  have k1 := (cells_of HP2.out.box 1).1
  simp only [List.getElem?_toArray, List.getElem?_cons_succ, List.getElem?_cons_zero] at k0 k1
  have hz2 : W.heap.size < W2.heap.size := (Array.getElem?_eq_some_iff.1 HP2.out.box).1
  have hp1 : W.heap.size ≤ p := Nat.le_trans HP.out.bel.size hp
  have hm1 : W.heap.size ≤ m := Nat.le_trans HP.out.bel.size hm
  clear L2 hb2 hp hm
  go_wp2_with fail
  refine (rnew_ok r b W2 HO.out).mono ?_
  rintro e W3 ⟨rfl, hb3⟩
  have HP3 := Lib.hid (HP2.out.below hb3)
  have HL3 := Lib.hid (HL2.out.below hb3)
  have hz3 : W.heap.size < W3.heap.size := (Array.getElem?_eq_some_iff.1 HP3.out.box).1
  clear hb3 k0 k1 HL2
  go_wp2_with fail
  refine (awake_any _).mono ?_
  rintro e W5 ⟨rfl, hb5⟩
  have HB5 := Lib.hid (HP3.out.bel.trans (((Below.refl W3.heap.size W3).alloc (Nat.le_refl _) _ |>.trans (hb5.mono (by simp))).mono HP3.out.bel.size))
  clear hb5
  go_wp2
  go_ret
  exact ⟨rfl, HB5.out⟩

set_option maxRecDepth 100000 in
set_option maxHeartbeats 2000000 in
theorem forks_long2 (r b : Int) (hrb : okRule r b) (xs ms : List S32) (h0 : xs.length ≤ 200) (h : 200 < ms.length) (A A2 : Option Addr) (cap cap2 : Nat) (W : World) :
    Calls Try.prog 7 #[.agg #[.int .i64 r, .int .i64 b], .slice A xs.length cap, .slice A2 ms.length cap2] W fun e w' => e = .returned (.bool true) ∧ Below W.heap.size W w' := by
  have HO := Lib.hid hrb
  clear hrb
  go_enter Try.func7, Try.ntmps7
  go_wp2_with fail
  refine calls_at (fun W1 => PyBox W W1 r b) (box_start0 _ _ _) ?_
  intro W1 hP
  have HP := Lib.hid hP
  clear hP
  refine (new_any r b W1 HO.out.1 HO.out.2.1 HO.out.2.2.1 HO.out.2.2.2).mono ?_
  rintro e W2 ⟨p, m, rfl, L2, hb2, hp, hm⟩
  have HP2 := Lib.hid (HP.out.below hb2)
  have HL2 := Lib.hid L2
  have k0 := (cells_of HP2.out.box 0).1
  have k1 := (cells_of HP2.out.box 1).1
  simp only [List.getElem?_toArray, List.getElem?_cons_succ, List.getElem?_cons_zero] at k0 k1
  have hz2 : W.heap.size < W2.heap.size := (Array.getElem?_eq_some_iff.1 HP2.out.box).1
  have hp1 : W.heap.size ≤ p := Nat.le_trans HP.out.bel.size hp
  have hm1 : W.heap.size ≤ m := Nat.le_trans HP.out.bel.size hm
  clear L2 hb2 hp hm
  go_wp2_with fail
  refine (rnew_ok r b W2 HO.out).mono ?_
  rintro e W3 ⟨rfl, hb3⟩
  have HP3 := Lib.hid (HP2.out.below hb3)
  have HL3 := Lib.hid (HL2.out.below hb3)
  have hz3 : W.heap.size < W3.heap.size := (Array.getElem?_eq_some_iff.1 HP3.out.box).1
  clear hb3 k0 k1 HL2
  go_wp2_with fail
  refine (awake_any _).mono ?_
  rintro e W5 ⟨rfl, hb5⟩
  have HB5 := Lib.hid (HP3.out.bel.trans (((Below.refl W3.heap.size W3).alloc (Nat.le_refl _) _ |>.trans (hb5.mono (by simp))).mono HP3.out.bel.size))
  clear hb5
  go_wp2
  go_ret
  exact ⟨rfl, HB5.out⟩

set_option maxRecDepth 100000 in
set_option maxHeartbeats 2000000 in
theorem forks_main (r b : Int) (hrb : okRule r b) (xs ms : List S32) (h0 : xs.length ≤ 200) (h : ms.length ≤ 200) (A A2 : Option Addr) (cap cap2 : Nat) (W : World) (hC : Kd.C k32 W A xs.length xs) (hok : ∀ x ∈ xs, okAct x) (hC2 : Kd.C k32 W A2 ms.length ms) (hok2 : ∀ x ∈ ms, okAct x) :
    Calls Try.prog 7 #[.agg #[.int .i64 r, .int .i64 b], .slice A xs.length cap, .slice A2 ms.length cap2] W fun e w' => e = .returned (.bool true) ∧ Below W.heap.size W w' := by
  have HO := Lib.hid hrb
  have HC := Lib.hid hC
  have HK := Lib.hid hok
  have HC2 := Lib.hid hC2
  have HK2 := Lib.hid hok2
  clear hrb hC hok hC2 hok2
  go_enter Try.func7, Try.ntmps7
  go_wp2_with fail
  refine calls_at (fun W1 => PyBox W W1 r b) (box_start0 _ _ _) ?_
  intro W1 hP
  have HP := Lib.hid hP
  clear hP
  refine (new_any r b W1 HO.out.1 HO.out.2.1 HO.out.2.2.1 HO.out.2.2.2).mono ?_
  rintro e W2 ⟨p, m, rfl, L2, hb2, hp, hm⟩
  have HP2 := Lib.hid (HP.out.below hb2)
  have HL2 := Lib.hid L2
  have k0 := (cells_of HP2.out.box 0).1
  have k1 := (cells_of HP2.out.box 1).1
  simp only [List.getElem?_toArray, List.getElem?_cons_succ, List.getElem?_cons_zero] at k0 k1
  have hz2 : W.heap.size < W2.heap.size := (Array.getElem?_eq_some_iff.1 HP2.out.box).1
  have hp1 : W.heap.size ≤ p := Nat.le_trans HP.out.bel.size hp
  have hm1 : W.heap.size ≤ m := Nat.le_trans HP.out.bel.size hm
  clear L2 hb2 hp hm
  go_wp2_with fail
  refine (rnew_ok r b W2 HO.out).mono ?_
  rintro e W3 ⟨rfl, hb3⟩
  have HP3 := Lib.hid (HP2.out.below hb3)
  have HL3 := Lib.hid (HL2.out.below hb3)
  have hz3 : W.heap.size < W3.heap.size := (Array.getElem?_eq_some_iff.1 HP3.out.box).1
  clear hb3 k0 k1 HL2
  have hp3 := HL3.out.lt
  have hm3 := HL3.out.ltm
  go_wp2_with fail
  have hX0 : Wld ((W3.alloc (.cells #[.int .i64 r, .int .i64 b, .slice none 0 0, .int .i64 0] 44)).alloc (.cells #[.pointer (some ⟨p, 0, none⟩), .int .i64 r, .int .i64 b, .slice none 0 0, .int .i64 0, .int .i64 0] 49)) (W3.heap.size + 1) p m r b 0 0 [] := by
    have h := wld_new (HL3.out.below ((Below.refl _ _).alloc (Nat.le_refl _) (.cells #[.int .i64 r, .int .i64 b, .slice none 0 0, .int .i64 0] 44)))
    rwa [show (W3.alloc (.cells #[.int .i64 r, .int .i64 b, .slice none 0 0, .int .i64 0] 44)).heap.size = W3.heap.size + 1 from by simp] at h
  have hB0 : Below W.heap.size W ((W3.alloc (.cells #[.int .i64 r, .int .i64 b, .slice none 0 0, .int .i64 0] 44)).alloc (.cells #[.pointer (some ⟨p, 0, none⟩), .int .i64 r, .int .i64 b, .slice none 0 0, .int .i64 0, .int .i64 0] 49)) :=
    (HP3.out.bel.alloc HP3.out.bel.size _).alloc (HP3.out.bel.alloc HP3.out.bel.size _).size _
  have HX0 := Lib.hid hX0
  have HB0 := Lib.hid hB0
  clear hX0 hB0
  go_loopw [12] (fun v12 wr => ∃ (i : Nat), i ≤ xs.length ∧ v12 = .int .i64 i ∧ PyRel W wr (W3.heap.size + 1) p m r b i) (fun v12 _ => xs.length - (intOf v12).toNat)
  case atStart => exact ⟨0, by omega, rfl, ⟨0, 0, [], by omega, by omega, by omega, by omega, HX0.out, HB0.out⟩⟩
  case round =>
    obtain ⟨i, hi, rfl, hR⟩ := hrel
    obtain ⟨d, now, ys, hd0, hd1, hn0, hn1, hX, hB⟩ := hR.out
    by_cases hlt : i < xs.length
    · obtain ⟨ad, rfl, q0, q1, q2, q3⟩ := at_act (Kd.C_below HC.out hB) i hlt
      have hox := HK.out (rd_T32 xs i) (rd_mem xs i hlt)
      obtain ⟨x, hx⟩ : ∃ x, rd_T32 xs i = x := ⟨_, rfl⟩
      rw [hx] at q0 q1 q2 q3 hox
      have HOX := Lib.hid hox
      have HX := Lib.hid hX
      have HB := Lib.hid hB
      clear hx hox hX hB hR
      go_wp2_with fail
      refine (do_any _ (W3.heap.size + 1) p m r b d now ys HX.out ⟨hd0, by omega⟩ ⟨hn0, by omega⟩ x HOX.out).mono ?_
      rintro e W4 ⟨rfl, d', now', ys', hX4, hd2, hd3, hn2, hn3, t4⟩
      have HX4 := Lib.hid hX4
      have HB4 := Lib.hid (py_below HB.out t4 (by omega) hp1 hm1)
      clear hX4 t4 q0 q1 q2 q3
      go_wp2_with fail
      go_roundw
      case rel => exact ⟨i + 1, by omega, by go_num, ⟨d', now', ys', by omega, by omega, by omega, by omega, HX4.out, HB4.out⟩⟩
      case measure => simp [intOf]; omega
    · obtain ⟨⟨A1, c1, hq, hRR⟩, hL, hqp, hqm⟩ := hX
      have g1 := (cells_of hq 1).1
      have g2 := (cells_of hq 2).1
      have g3 := (cells_of hq 3).1
      have g4 := (cells_of hq 4).1
      have g5 := (cells_of hq 5).1
      simp only [List.getElem?_toArray, List.getElem?_cons_succ, List.getElem?_cons_zero] at g1 g2 g3 g4 g5
      have hql : W3.heap.size + 1 < wr.heap.size := (Array.getElem?_eq_some_iff.1 hq).1
      have HQ := Lib.hid hq
      have HRR := Lib.hid hRR
      have HL := Lib.hid hL
      have HB := Lib.hid hB
      clear hq hRR hL hB hR
      go_wp2_with fail
      go_region_held3 (fun w' => w'.cell? ⟨W3.heap.size + 1, 1, none⟩ = some (.int .i64 r) ∧ w'.cell? ⟨W3.heap.size + 1, 2, none⟩ = some (.int .i64 b) ∧ w'.cell? ⟨W3.heap.size + 1, 3, none⟩ = some (.slice A1 ys.length c1) ∧ w'.cell? ⟨W3.heap.size + 1, 4, none⟩ = some (.int .i64 d) ∧ w'.cell? ⟨W3.heap.size + 1, 5, none⟩ = some (.int .i64 now))
        (first | (with_reducible exact ⟨s1, s2, s3, s4, s5⟩) | (with_reducible exact ⟨g1, g2, g3, g4, g5⟩) | go_keep)
        (first
          | (go_at_call 17; refine (fork_any (HL.out.below ((Below.refl _ _).drew))).mono ?_; rintro e w1 ⟨p', m', rfl, L', hbF, hp', hm'⟩; have HL' := Lib.hid L'; have HBF := Lib.hid (((Below.refl wr.heap.size wr).drew).trans hbF); have HP' : RowKit.Hid (wr.heap.size ≤ p') := hp'; have HM' : RowKit.Hid (wr.heap.size ≤ m') := hm'; have hq1 := (HBF.out.block _ hql).trans HQ.out; have s1 := (cells_of hq1 1).1; have s2 := (cells_of hq1 2).1; have s3 := (cells_of hq1 3).1; have s4 := (cells_of hq1 4).1; have s5 := (cells_of hq1 5).1; simp only [List.getElem?_toArray, List.getElem?_cons_succ, List.getElem?_cons_zero] at s1 s2 s3 s4 s5; clear L' hbF hp' hm' hq1))
      obtain ⟨W6, hW6⟩ : ∃ W6, w1.alloc (.cells #[.pointer (some ⟨p', 0, none⟩), .int .i64 r, .int .i64 b, .slice A1 ys.length c1, .int .i64 d, .int .i64 now] 49) = W6 := ⟨_, rfl⟩
      obtain ⟨hX6, hY6, hB6, hs1⟩ := wld_fork HQ.out HRR.out HL.out hqp hqm HL'.out HBF.out HP'.out HM'.out hW6
      rw [hW6]
      have k0 := wld_lim hX6
      have HX6 := Lib.hid hX6
      have HY6 := Lib.hid hY6
      have HB6 := Lib.hid (HB.out.trans (hB6.mono HB.out.size))
      have hsz := HB.out.size
      clear hX6 hY6 hB6 hW6 s1 s2 s3 s4 s5 g1 g2 g3 g4 g5
      have hp2 := HP'.out
      have hm2 := HM'.out
      obtain ⟨N, hN⟩ : ∃ N, wr.heap.size = N := ⟨_, rfl⟩
      rw [hN] at HY6 hp2 hm2 hs1 hsz
      clear hN
      obtain ⟨f, hf⟩ : ∃ f, w1.heap.size = f := ⟨_, rfl⟩
      rw [hf] at HX6 k0 hs1
      rw [hf]
      clear hf
      have hd3 : d ≤ 200 := by omega
      have hn3 : now ≤ 65535 * 200 := by omega
      clear hd1 hn1
      go_wp2_with fail
      go_loopw [14] (fun v14 wr2 => ∃ (j : Nat), j ≤ ms.length ∧ v14 = .int .i64 j ∧ FkRel W wr2 f p' m' (W3.heap.size + 1) p m N r b d now ys j) (fun v14 _ => ms.length - (intOf v14).toNat)
      case atStart => exact ⟨0, by omega, rfl, ⟨⟨d, now, ys, hd0, by omega, hn0, by omega, HX6.out⟩, HY6.out, HB6.out⟩⟩
      case round =>
        obtain ⟨j, hj, rfl, hR⟩ := hrel
        obtain ⟨⟨d2, now2, ys2, he0, he1, hw0, hw1, hX⟩, hY, hB2⟩ := hR
        by_cases hlt2 : j < ms.length
        · obtain ⟨ad, rfl, q0, q1, q2, q3⟩ := at_act (Kd.C_below HC2.out hB2) j hlt2
          have hox := HK2.out (rd_T32 ms j) (rd_mem ms j hlt2)
          obtain ⟨x, hx⟩ : ∃ x, rd_T32 ms j = x := ⟨_, rfl⟩
          rw [hx] at q0 q1 q2 q3 hox
          have HOX := Lib.hid hox
          have HX := Lib.hid hX
          have HY := Lib.hid hY
          have HB2 := Lib.hid hB2
          clear hx hox hX hB2 hY
          go_wp2_with fail
          refine (do_any _ f p' m' r b d2 now2 ys2 HX.out ⟨he0, by omega⟩ ⟨hw0, by omega⟩ x HOX.out).mono ?_
          rintro e W8 ⟨rfl, d', now', ys', hX4, hd2, hd4, hn2, hn4, t4⟩
          have HX4 := Lib.hid hX4
          have HY4 := Lib.hid (HY.out.turn t4 (fun k h => by omega))
          have HB4 := Lib.hid (py_below HB2.out t4 (by omega) (by omega) (by omega))
          clear hX4 t4 q0 q1 q2 q3
          go_wp2_with fail
          go_roundw
          case rel => exact ⟨j + 1, by omega, by go_num, ⟨⟨d', now', ys', by omega, by omega, by omega, by omega, HX4.out⟩, HY4.out, HB4.out⟩⟩
          case measure => simp [intOf]; omega
        · have m5 := wld_now hX
          have n5 := wld_now hY.wld
          have HX := Lib.hid hX
          have HY := Lib.hid hY
          have HB2 := Lib.hid hB2
          clear hX hB2 hY
          go_wp2_with (first
            | (go_at_call 10; refine (allow_none _ _ _).mono ?_; rintro e w' ⟨rfl, rfl⟩)
            | (go_at_call 12; refine (left_none _ _ _).mono ?_; rintro e w' ⟨rfl, rfl⟩)
            | (go_at_call 16; refine (next_none _ _ _).mono ?_; rintro e w' ⟨rfl, rfl⟩)
            | (go_at_call 11; refine (forget_none _ _).mono ?_; rintro e w' ⟨rfl, rfl⟩)
            | (go_at_call 18; refine (len_none _).mono ?_; rintro e w' ⟨rfl, rfl⟩)
            | (go_at_call 19; refine (denied_none _).mono ?_; rintro e w' ⟨rfl, rfl⟩)
            | (go_at_call 17; refine (fork_none _).mono ?_; rintro e w' ⟨rfl, rfl⟩)
            | fail)
          refine (same_any _ f p' m' r b d2 now2 ys2 HX.out ⟨#[107]⟩ (by decide) now2).mono ?_
          rintro e W7 ⟨rfl, hb7⟩
          have HY7 := Lib.hid (HY.out.turn (Turn.of_below (S := fun _ => False) hb7) (fun k h => h.elim))
          have HB7 := Lib.hid (HB2.out.trans (hb7.mono HB2.out.size))
          have n7 := wld_now HY7.out.wld
          clear hb7 m5 n5
          go_wp2_with fail
          refine (same_any _ (W3.heap.size + 1) p m r b d now ys HY7.out.wld ⟨#[107]⟩ (by decide) now).mono ?_
          rintro e W8 ⟨rfl, hb8⟩
          have HB8 := Lib.hid (HB7.out.trans (hb8.mono HB7.out.size))
          clear hb8 n7
          go_wp2_with fail
          refine (awake_any _).mono ?_
          rintro e W9 ⟨rfl, hb9⟩
          have HB9 := Lib.hid (HB8.out.trans (hb9.mono HB8.out.size))
          clear hb9
          go_wp2
          go_ret
          exact ⟨rfl, HB9.out⟩

theorem forks_holds (r b : Int) (A : Option Addr) (xs : List S32) (cap : Nat) (A2 : Option Addr) (ms : List S32) (cap2 : Nat) (W : World) (hC : Kd.C k32 W A xs.length xs) (hok : ∀ x ∈ xs, okAct x) (hC2 : Kd.C k32 W A2 ms.length ms) (hok2 : ∀ x ∈ ms, okAct x) :
    Calls Try.prog 7 #[.agg #[.int .i64 r, .int .i64 b], .slice A xs.length cap, .slice A2 ms.length cap2] W fun e w' => e = .returned (.bool true) ∧ Below W.heap.size W w' := by
  by_cases hrb : okRule r b
  · by_cases h : 200 < xs.length
    · exact forks_long1 r b hrb xs ms h A A2 cap cap2 W
    · by_cases h2 : 200 < ms.length
      · exact forks_long2 r b hrb xs ms (by omega) h2 A A2 cap cap2 W
      · exact forks_main r b hrb xs ms (by omega) (by omega) A A2 cap cap2 W hC hok hC2 hok2
  · exact forks_bad r b hrb xs ms A A2 cap cap2 W

end Go.Proofs.Ytgphhjghodhodaa
